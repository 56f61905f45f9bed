/- Part of a verified evaluator of the model's programs and of runs by it: SU4 SU5 SU6. -/
import Derived.Test.YtihokakelnfdgaaDoorSI
import Derived.Test.YtihokakelnfdgaaDoorSH
import Derived.Test.YtihokakelnfdgaaDoorSM
namespace Go.Proofs.YtihokakelnfdgaaDoor
set_option linter.unusedSimpArgs false
open Go Go.Ev
set_option linter.unusedVariables false

/-! What a walk over places p to p + k leaves as it is; which functions it adds. -/
structure Wk (p k : Nat) (fs : List (Nat × Int)) (S S' : MS) : Prop where
 u : ∀ q, (q < p ∨ p + k ≤ q) → S'.uses[q]? = S.uses[q]? ∧ S'.means[q]? = S.means[q]?
 e : S.e ≠ 0 → S'.e ≠ 0
 f : S'.e = 0 → fnK S' = fnK S ++ fs
theorem Wk.trans {p k : Nat} {fs gs : List (Nat × Int)} {S S1 S2 : MS} (h : Wk p k fs S S1) (g : Wk p k gs S1 S2) : Wk p k (fs ++ gs) S S2 where
 u := fun q hq => ⟨(g.u q hq).1.trans (h.u q hq).1, (g.u q hq).2.trans (h.u q hq).2⟩
 e := fun he => g.e (h.e he)
 f := fun he => by
  have h1 : S1.e = 0 := Decidable.byContradiction fun hh => g.e hh he
  rw [g.f he, h.f h1, List.append_assoc]
theorem Wk.wide {p k p' k' : Nat} {fs : List (Nat × Int)} {S S' : MS} (h : Wk p k fs S S') (h1 : p' ≤ p) (h2 : p + k ≤ p' + k') : Wk p' k' fs S S' := ⟨fun q hq => h.u q (by omega), h.e, h.f⟩
theorem Wk.same {p k : Nat} {S S' : MS} (h1 : S'.uses = S.uses) (h2 : S'.means = S.means) (h3 : S'.e = S.e) (h4 : fnK S' = fnK S) : Wk p k [] S S' := ⟨fun q _ => by rw [h1, h2]; exact ⟨rfl, rfl⟩, fun h => by rw [h3]; exact h, fun _ => by rw [h4, List.append_nil]⟩
theorem Wk.cast {p k : Nat} {fs gs : List (Nat × Int)} {S S' : MS} (h : Wk p k fs S S') (hg : fs = gs) : Wk p k gs S S' := hg ▸ h

def isFnAt (l : List Nd) (i : Nat) : Bool := match l[i]? with | some x => decide (x.kind = 12 ∨ x.kind = 31) | none => false
def numAt (l : List Nd) (i : Nat) : Int := match l[i]? with | some x => x.num | none => 0
def fnL (l : List Nd) (p k : Nat) : List (Nat × Int) := ((List.range' p k).filter (isFnAt l)).map fun i => (i, numAt l i)
theorem fnL_add (l : List Nd) (p a b : Nat) : fnL l p (a + b) = fnL l p a ++ fnL l (p + a) b := by
 unfold fnL
 rw [← List.map_append, ← List.filter_append, List.range'_append_1]
theorem fnL_one {l : List Nd} {p : Nat} (hp : p < l.length) : fnL l p 1 = if l[p].kind = 12 ∨ l[p].kind = 31 then [(p, l[p].num)] else [] := by
 unfold fnL isFnAt numAt
 simp only [List.range'_one, List.filter_cons, List.filter_nil, List.getElem?_eq_getElem hp]
 split <;> simp_all

theorem failIf_e (S : MS) (b : Bool) (e : Nat) (p : Int) (he : e ≠ 0) (h : S.e ≠ 0) : (S.failIf b e p).e ≠ 0 := by
 unfold MS.failIf MS.fail
 cases b
 ·exact h
 ·simp [h]
theorem Wk.failIf {p k : Nat} (S : MS) (b : Bool) (e : Nat) (pos : Int) (he : e ≠ 0) : Wk p k [] S (S.failIf b e pos) := by
 obtain ⟨z1, z2, z3, z4, z5, z6, z7⟩ := failIf_rest S b e pos
 exact ⟨fun q _ => by rw [z2, z5]; exact ⟨rfl, rfl⟩, failIf_e S b e pos he, fun _ => by unfold fnK; rw [z1, List.append_nil]⟩
theorem fnK_slots (fs : List Fn) (i : Nat) (g : Fn → Fn) (hg : ∀ f, (g f).node = f.node ∧ (g f).params = f.params) : (fs.modify i g).map (fun g => (g.node, g.params)) = fs.map fun g => (g.node, g.params) := by
 apply List.ext_getElem?
 intro j
 rw [List.getElem?_map, List.getElem?_map, List.getElem?_modify]
 cases fs[j]? with
 | none => rfl
 | some x => simp only [Option.map_some, Option.map_eq_map]; split <;> simp [hg x]
theorem Wk.declare (S : MS) (s : Bs) (at_ : Nat) (pos : Int) : Wk at_ 1 [] S (S.declare s at_ pos) := by
 have h := ((Wk.failIf (p := at_) (k := 1) S (primI s).isSome 8 pos (by decide)).trans (Wk.failIf _ (look s (headSc S.topScopes)).isSome 80 pos (by decide))).trans (Wk.failIf _ (decide (slotsOf S.funs S.topFn = 256)) 3 pos (by decide))
 refine (h.trans (S2 := S.declare s at_ pos) ?_).cast rfl
 unfold MS.declare
 simp only
 refine ⟨fun q hq => ⟨rfl, ?_⟩, fun h => h, fun _ => ?_⟩
 ·simp only
  rw [List.getElem?_set_ne (by omega)]
 ·unfold fnK
  simp only
  rw [fnK_slots _ _ (fun f => { f with slots := f.slots + 1 }) (fun f => ⟨rfl, rfl⟩), List.append_nil]
theorem Wk.global (g : List (Bs × Nat)) (S : MS) (s : Bs) (at_ : Nat) (pos : Int) : Wk at_ 1 [] S (MS.global g S s at_ pos) := by
 have h := ((Wk.failIf (p := at_) (k := 1) S (primI s).isSome 8 pos (by decide)).trans (Wk.failIf _ (globC g s at_) 80 pos (by decide))).trans (Wk.failIf _ (decide (S.globals.length = 1024)) 3 pos (by decide))
 refine (h.trans (S2 := MS.global g S s at_ pos) ?_).cast rfl
 rw [show MS.global g S s at_ pos = (let S3 := ((S.failIf (primI s).isSome 8 pos).failIf (globC g s at_) 80 pos).failIf (decide (S.globals.length = 1024)) 3 pos; { S3 with uses := S3.uses.set at_ (4, S.globals.length), globals := S3.globals ++ [s] }) from rfl]
 refine ⟨fun q hq => ⟨?_, rfl⟩, fun h => h, fun _ => ?_⟩
 ·simp only
  rw [List.getElem?_set_ne (by omega)]
 ·rw [List.append_nil]; rfl
theorem Wk.frames {p k : Nat} (S : MS) (fr : List Fr) : Wk p k [] S { S with frames := fr } := Wk.same rfl rfl rfl rfl
theorem Wk.top {p k : Nat} (S : MS) (g : Fr → Fr) : Wk p k [] S (S.top g) := Wk.same rfl rfl rfl rfl
theorem Wk.go {p k : Nat} (S : MS) (q : Nat) : Wk p k [] S { S with pc := q } := Wk.same rfl rfl rfl rfl
theorem Wk.open_ (S : MS) (p : Nat) (x : Nd) : Wk p 1 [(p, x.num)] S (S.open_ p x) := by
 refine ((Wk.failIf (p := p) (k := 1) S (decide (S.funs.length = 1024)) 3 x.pos (by decide)).trans (gs := [(p, x.num)]) (S2 := S.open_ p x) ?_).cast rfl
 unfold MS.open_
 refine ⟨fun q _ => ⟨rfl, rfl⟩, fun h => h, fun _ => ?_⟩
 unfold fnK MS.enter MS.top
 simp
theorem take_e : ∀ (f : Nat) (S : MS) (d k : Nat) (pos : Int), S.e ≠ 0 → (MS.take f S d k pos).1.e ≠ 0
 | 0, S, d, k, pos, h => h
 | f + 1, S, d, k, pos, h => by
  rw [MS.take]
  cases taken S d k with
  | some i => exact h
  | none =>
   simp only
   by_cases hh : frFn S (k + 1) ≠ declFn S d
   ·simp only [if_pos hh]
    exact failIf_e _ _ _ _ (by decide) (take_e f S d (k + 1) pos h)
   ·simp only [if_neg hh]
    exact failIf_e _ _ _ _ (by decide) h
theorem Tk.fnK {d f : Nat} {S r : MS} (h : Tk d f S r) : fnK r = YtihokakelnfdgaaDoor.fnK S := by
 unfold YtihokakelnfdgaaDoor.fnK
 apply List.ext_getElem?
 intro i
 rw [List.getElem?_map, List.getElem?_map]
 cases hr : r.funs[i]? with
 | none =>
  have : S.funs[i]? = none := by
   have h1 := h.nf
   rw [List.getElem?_eq_none_iff] at hr ⊢; omega
  rw [this]
 | some g =>
  obtain ⟨g0, h1, h2, h3, -⟩ := h.funs i g hr
  rw [h1]; simp only [Option.map_some, h2, h3]
theorem Wk.name {l : List Nd} (g : List (Bs × Nat)) (set : Bool) (S : MS) (hp : S.pc < l.length) : Wk S.pc 1 [] S (MS.name l g set S) := by
 rw [MS.name_find g set (List.getElem?_eq_getElem hp)]
 generalize l[S.pc] = x
 simp only
 have h0 : Wk S.pc 1 [] S (({ S with pc := S.pc + 1 } : MS).failIf ((primI x.text).isSome && set) 8 x.pos) := (Wk.go S _).trans (Wk.failIf _ _ _ _ (by decide))
 generalize ({ S with pc := S.pc + 1 } : MS).failIf ((primI x.text).isSome && set) 8 x.pos = S1 at h0
 cases hf : findFr x.text S1.frames with
 | some q =>
  obtain ⟨d, out⟩ := q
  cases out with
  | zero =>
   have h1 : Wk S.pc 1 [] S1 { S1 with means := S1.means.set S.pc (some d) } := ⟨fun q hq => ⟨rfl, List.getElem?_set_ne (by omega)⟩, fun h => h, fun _ => (List.append_nil _).symm⟩
   exact h0.trans h1
  | succ out =>
   simp only
   generalize hS2 : ({ S1 with means := (S1.means.set S.pc (some d)).set S.pc none, decls := S1.decls.modify d fun c => { c with cap := true } } : MS) = S2
   have tk := take_tk (S1.frames.length + 1) S2 d 0 x.pos
   have h2 : Wk S.pc 1 [] S1 S2 := by
    rw [← hS2]
    refine ⟨fun q hq => ⟨rfl, ?_⟩, fun h => h, fun _ => (List.append_nil _).symm⟩
    simp only
    rw [List.getElem?_set_ne (by omega), List.getElem?_set_ne (by omega)]
   have h3 : Wk S.pc 1 [] S2 { (MS.take (S1.frames.length + 1) S2 d 0 x.pos).1 with uses := (MS.take (S1.frames.length + 1) S2 d 0 x.pos).1.uses.set S.pc (3, (MS.take (S1.frames.length + 1) S2 d 0 x.pos).2) } := by
    refine ⟨fun q hq => ⟨?_, ?_⟩, take_e _ S2 d 0 x.pos, fun _ => ?_⟩
    ·simp only
     rw [List.getElem?_set_ne (by omega), tk.uses]
    ·simp only
     rw [tk.means]
    ·rw [List.append_nil]; exact tk.fnK
   subst hS2
   exact (h0.trans h2).trans h3
 | none =>
  simp only
  cases look x.text g with
  | some at_ =>
   have h1 : Wk S.pc 1 [] S1 { S1 with uses := S1.uses.set S.pc (4, globalNo l at_) } := ⟨fun q hq => ⟨List.getElem?_set_ne (by omega), rfl⟩, fun h => h, fun _ => (List.append_nil _).symm⟩
   exact h0.trans h1
  | none =>
   simp only
   have h1 : Wk S.pc 1 [] (S1.failIf (primI x.text).isNone 4 x.pos) { S1.failIf (primI x.text).isNone 4 x.pos with uses := (S1.failIf (primI x.text).isNone 4 x.pos).uses.set S.pc (5, (primI x.text).getD 0) } := ⟨fun q hq => ⟨List.getElem?_set_ne (by omega), rfl⟩, fun h => h, fun _ => (List.append_nil _).symm⟩
   exact (h0.trans (Wk.failIf S1 (primI x.text).isNone 4 x.pos (by decide))).trans h1

def NodeW (l : List Nd) (nd : MS → MS) (f : Nat) : Prop := ∀ (S : MS) (b k : Nat), Inv l b S → D (l.drop S.pc) 1 = some k → k ≤ f → Wk S.pc k (fnL l S.pc k) S (nd S)
section
variable {l : List Nd} {nd : MS → MS} {f b k : Nat} {S : MS}
theorem times_wk (hN : NodeI l nd f) (hW : NodeW l nd f) : ∀ (n : Nat) (S : MS) (b k : Nat), Inv l b S → D (l.drop S.pc) n = some k → k ≤ f → Wk S.pc k (fnL l S.pc k) S (times nd n S)
 | 0, S, b, k, h, hD, hk => by
  rw [D_zero] at hD; cases hD
  exact Wk.same rfl rfl rfl rfl
 | n + 1, S, b, k, h, hD, hk => by
  obtain ⟨k1, k2, e1, e2, e3, e4, e5, e6⟩ := D_next hD
  obtain ⟨i1, i2, i3⟩ := hN S b k1 h e1 (by omega)
  have w1 := hW S b k1 h e1 (by omega)
  have w2 := times_wk hN hW n (nd S) (b + 2 * k1) k2 i1 (by rw [i3]; exact e2) (by omega)
  rw [i3] at w2
  rw [times, e3, fnL_add]
  exact (w1.wide (Nat.le_refl _) (by omega)).trans (w2.wide (by omega) (by omega))
theorem params_wk (hl : ∀ x ∈ l, okR x = true) : ∀ (n : Nat) (S : MS) (b : Nat), Inv l b S → S.pc + n ≤ l.length → Wk S.pc n [] S (MS.params l n S)
 | 0, S, b, h, hp => Wk.same rfl rfl rfl rfl
 | n + 1, S, b, h, hp => by
  have hlt : S.pc < l.length := by omega
  rw [MS.params, List.getElem?_eq_getElem hlt]
  simp only
  obtain ⟨i1, i2, i3, i4, i5, i6⟩ := h.declare l[S.pc].text S.pc l[S.pc].pos
  obtain ⟨j1, j2, j3⟩ := i1.bind l[S.pc].text (d := S.decls.length) i5 (by rw [i6]; exact (topFn_frK i2.fr).1.symm)
  have q1 := j1.go (p := ((S.declare l[S.pc].text S.pc l[S.pc].pos).bind l[S.pc].text S.decls.length).pc + 1) (Nat.le_succ _) (by rw [j3, i3]; omega)
  have w := params_wk hl n _ (b + 1) q1 (by simp only [j3, i3]; omega)
  have hpc : ({ (S.declare l[S.pc].text S.pc l[S.pc].pos).bind l[S.pc].text S.decls.length with pc := ((S.declare l[S.pc].text S.pc l[S.pc].pos).bind l[S.pc].text S.decls.length).pc + 1 } : MS).pc = S.pc + 1 := by simp only [j3, i3]
  rw [hpc] at w
  exact ((((Wk.declare S l[S.pc].text S.pc l[S.pc].pos).wide (Nat.le_refl _) (by omega)).trans (Wk.top _ _)).trans (Wk.go _ _)).trans (w.wide (by omega) (by omega))
theorem names_fnL {l : List Nd} : ∀ (n q : Nat), (∀ i, i < n → ∃ h : q + i < l.length, l[q + i].kind = 19) → fnL l q n = []
 | 0, q, _ => rfl
 | n + 1, q, h => by
  obtain ⟨h0, h1⟩ := h 0 (by omega)
  simp only [Nat.add_zero] at h0 h1
  rw [Nat.add_comm, fnL_add, fnL_one h0, if_neg (by omega), names_fnL n (q + 1) fun i hi => by
   obtain ⟨a, b⟩ := h (i + 1) (by omega)
   have e : q + 1 + i = q + (i + 1) := by omega
   exact ⟨by omega, by simp only [e]; exact b⟩]
  rfl
theorem function_wk (P : Prg l) (hN : NodeI l nd f) (hW : NodeW l nd f) {p : Nat} (hp : p < l.length) (hk : l[p].kind = 12 ∨ l[p].kind = 31) (h : Inv l b S) (hpc : S.pc = p + 1) (hfr : S.frames.length + 1 ≤ S.pc) (hD : D (l.drop (p + 1)) l[p].n.toNat = some k) (hkf : k ≤ f) :
  Wk p (k + 1) (fnL l p (k + 1)) S (S.function l nd p l[p]) := by
 obtain ⟨c1, c2, c3⟩ := cntF (P.ok _ (List.getElem_mem hp)) hk
 obtain ⟨num, hnum⟩ : ∃ n : Nat, l[p].num = n := ⟨l[p].num.toNat, by omega⟩
 have hpar := P.params hp hk
 have hpar' : ∀ i : Nat, i < num → ∃ hq : p + 1 + i < l.length, l[p + 1 + i].kind = 19 := fun i hi => hpar i (by omega)
 have hnD := names_D P.ok num (p + 1) hpar'
 rw [show l[p].n.toNat = num + 1 by omega] at hD
 obtain ⟨k1, k2, e1, e2, e3⟩ := D_add _ _ _ _ hD
 rw [hnD] at e1; cases e1
 rw [List.drop_drop] at e2
 have hle := D_le _ _ _ e2
 rw [List.length_drop] at hle
 obtain ⟨i1, i2, i3, i4, i5, i6⟩ := h.open_ hfr p l[p]
 obtain ⟨j1, j2, j3⟩ := params_inv P.ok num (S.open_ p l[p]) (b + 1) i1 (by rw [i6, hpc]; omega)
 have w1 := Wk.open_ S p l[p]
 have w2 := params_wk P.ok num (S.open_ p l[p]) (b + 1) i1 (by rw [i6, hpc]; omega)
 have w3 := hW (MS.params l num (S.open_ p l[p])) (b + 1 + num) k2 j1 (by rw [j3, i6, hpc]; exact e2) (by omega)
 rw [i6, hpc] at w2
 rw [j3, i6, hpc] at w3
 unfold MS.function
 rw [show l[p].num.toNat = num by omega]
 have hfl : fnL l p (k + 1) = [(p, l[p].num)] ++ [] ++ fnL l (p + 1 + num) k2 ++ [] ++ [] := by
  rw [show k + 1 = 1 + (num + k2) by omega, fnL_add, fnL_one hp, if_pos hk, fnL_add, names_fnL num (p + 1) hpar']
  simp
 rw [hfl]
 exact ((((w1.wide (Nat.le_refl _) (by omega)).trans (w2.wide (by omega) (by omega))).trans (w3.wide (by omega) (by omega))).trans (Wk.top _ _)).trans (Wk.frames _ _)

theorem step_wk (P : Prg l) (hl : l.length ≤ 400) (g : List (Bs × Nat)) (hN : NodeI l nd f) (hW : NodeW l nd f) {p : Nat} (hp : p < l.length) (h : Inv l b S) (hpc : S.pc = p + 1) (hfr : S.frames.length + 1 ≤ S.pc) (hD : D (l.drop (p + 1)) l[p].n.toNat = some k) (hkf : k ≤ f) :
  Wk p (k + 1) (fnL l p (k + 1)) S (MS.step l g nd p l[p] S) := by
 have hok := P.ok _ (List.getElem_mem hp)
 have hokl := P.ok
 have hfl : ¬ (l[p].kind = 12 ∨ l[p].kind = 31) → fnL l p (k + 1) = fnL l (p + 1) k := fun hn => by rw [Nat.add_comm, fnL_add, fnL_one hp, if_neg hn]; rfl
 have hfun := fun (S1 : MS) (b : Nat) (hk : l[p].kind = 12 ∨ l[p].kind = 31) (h1 : Inv l b S1) (h2 : S1.pc = p + 1) (h3 : S1.frames.length + 1 ≤ S1.pc) => function_wk (S := S1) (b := b) P hN hW hp hk h1 h2 h3 hD hkf
 generalize hx : l[p] = x at hD hok hfl hfun
 rw [← hpc] at hD
 unfold MS.step
 have hp1 : p ≤ p + 1 := Nat.le_succ _
 have hp2 : p + 1 + k ≤ p + (k + 1) := by omega
 have hp3 : p + 1 ≤ p + (k + 1) := by omega
 by_cases h2 : x.kind = 2
 ·rw [if_pos h2, hfl (by omega)]
  have r := times_wk hN hW x.n.toNat S.enter (b + 1) k h.enter hD hkf
  have e1 : S.enter.pc = p + 1 := hpc
  rw [e1] at r
  exact ((((Wk.top S _).trans (r.wide hp1 hp2)).trans (Wk.top _ _)).cast (by simp))
 rw [if_neg h2]
 by_cases h3 : x.kind = 3
 ·rw [if_pos h3, hfl (by omega)]
  rw [cnt1 hok h3] at hD
  unfold MS.variable
  by_cases ht : isTop S = true
  ·rw [if_pos ht]
   obtain ⟨i1, i2, i3⟩ := h.global g x.text p x.pos
   have r := hW _ _ k i1 (by rw [i3]; exact hD) hkf
   rw [i3, hpc] at r
   exact (((Wk.global g S x.text p x.pos).wide (Nat.le_refl _) hp3).trans (r.wide hp1 hp2)).cast (by simp)
  ·rw [if_neg ht]
   obtain ⟨i1, i2, i3, i4, i5, i6⟩ := h.declare x.text p x.pos
   have r := hW _ _ k i1 (by rw [i3]; exact hD) hkf
   rw [i3, hpc] at r
   exact ((((Wk.declare S x.text p x.pos).wide (Nat.le_refl _) hp3).trans (r.wide hp1 hp2)).trans (Wk.top _ _)).cast (by simp)
 rw [if_neg h3]
 by_cases h12 : x.kind = 12
 ·rw [if_pos h12]
  by_cases ht : isTop S = true
  ·rw [if_pos ht]
   obtain ⟨i1, i2, i3⟩ := h.global g x.text p x.pos
   have hlen : (MS.global g S x.text p x.pos).frames.length = S.frames.length := by rw [← frK_len, i2.fr, frK_len]
   have r := hfun _ _ (.inl h12) i1 (i3.trans hpc) (by rw [hlen, i3]; exact hfr)
   exact (((Wk.global g S x.text p x.pos).wide (Nat.le_refl _) hp3).trans r).cast (by simp)
  ·rw [if_neg ht]
   obtain ⟨i1, i2, i3, i4, i5, i6⟩ := h.declare x.text p x.pos
   obtain ⟨j1, j2, j3⟩ := i1.bind x.text (d := S.decls.length) i5 (by rw [i6]; exact (topFn_frK i2.fr).1.symm)
   have hlen : ((S.declare x.text p x.pos).bind x.text S.decls.length).frames.length = S.frames.length := by rw [← frK_len, j2.fr, i2.fr, frK_len]
   have r := hfun _ _ (.inl h12) j1 (j3.trans (i3.trans hpc)) (by rw [hlen, j3, i3]; exact hfr)
   exact ((((Wk.declare S x.text p x.pos).wide (Nat.le_refl _) hp3).trans (Wk.top _ _)).trans r).cast (by simp)
 rw [if_neg h12]
 by_cases h31 : x.kind = 31
 ·rw [if_pos h31]
  exact hfun _ _ (.inr h31) h hpc hfr
 rw [if_neg h31]
 by_cases h4 : x.kind = 4
 ·rw [if_pos h4, hfl (by omega)]
  rw [cnt2 hok (.inl h4)] at hD
  have hD2 : D (l.drop S.pc) 2 = some k := hD
  obtain ⟨k1, k2, e1, e2, e3, e4, e5, e6⟩ := D_next hD2
  rw [List.getElem?_eq_getElem e5]
  simp only
  by_cases hy : l[S.pc].kind = 19
  ·rw [if_pos hy]
   have hw := name_width e5 (hokl _ (List.getElem_mem e5)) hy
   rw [hw] at e1; cases e1
   obtain ⟨i1, i2, i3⟩ := h.name hl g true e5
   have r := hW _ _ k2 i1 (by rw [i3]; exact e2) (by omega)
   have n := Wk.name g true S e5
   rw [i3] at r
   have e7 : fnL l (p + 1) k = [] ++ fnL l (p + 1 + 1) k2 := by
    have e5' : p + 1 < l.length := by omega
    have hy' : l[p + 1].kind = 19 := by simp only [← hpc]; exact hy
    rw [e3, fnL_add, fnL_one e5', if_neg (by omega)]
   rw [e7]
   rw [hpc] at n r
   exact (n.wide hp1 (by omega)).trans (r.wide (by omega) (by omega))
  ·rw [if_neg hy]
   have r := times_wk hN hW 2 S b k h hD2 hkf
   rw [hpc] at r
   exact r.wide hp1 hp2
 rw [if_neg h4]
 by_cases h11 : x.kind = 11
 ·rw [if_pos h11, hfl (by omega)]
  rw [cnt2 hok (.inr (.inr h11))] at hD
  have hD2 : D (l.drop S.pc) 2 = some k := hD
  obtain ⟨k1, k2, e1, e2, e3, e4, e5, e6⟩ := D_next hD2
  unfold MS.try_
  obtain ⟨i1, i2, i3, i4, i5, i6⟩ := h.enter.declare x.text p x.pos
  obtain ⟨r1, r2, r3⟩ := hN _ _ k1 i1 (by rw [i3]; exact e1) (by omega)
  have hd := r2.declFn i5
  obtain ⟨j1, j2, j3⟩ := r1.bind x.text (d := S.enter.decls.length) hd.2 (by rw [hd.1, i6]; exact (topFn_frK (i2.trans r2).fr).1.symm)
  have w1 := hW _ _ k1 i1 (by rw [i3]; exact e1) (by omega)
  have w2 := hW _ _ k2 j1 (by rw [j3, r3, i3]; exact e2) (by omega)
  have e8 : S.enter.pc = p + 1 := hpc
  rw [i3, e8] at w1
  rw [j3, r3, i3, e8] at w2
  have e7 : fnL l (p + 1) k = fnL l (p + 1) k1 ++ fnL l (p + 1 + k1) k2 := by rw [e3, fnL_add]
  rw [e7]
  exact ((((((Wk.top S _).trans ((Wk.declare S.enter x.text p x.pos).wide (Nat.le_refl _) hp3)).trans (w1.wide hp1 (by omega))).trans (Wk.top _ _)).trans (w2.wide (by omega) (by omega))).trans (Wk.top _ _)).cast (by simp)
 rw [if_neg h11, hfl (by omega)]
 unfold MS.plain
 by_cases h6 : x.kind = 6
 ·rw [if_pos h6]
  rw [cnt2 hok (.inr (.inl h6))] at hD
  have hD2 : D (l.drop S.pc) 2 = some k := hD
  obtain ⟨k1, k2, e1, e2, e3, e4, e5, e6⟩ := D_next hD2
  obtain ⟨r1, r2, r3⟩ := hN _ _ k1 h e1 (by omega)
  have j1 := r1.loop (· + 1) (b' := b + 2 * k1 + 1) (Nat.le_succ _) (fun n hn => by show n + 1 ≤ _; omega)
  have w1 := hW _ _ k1 h e1 (by omega)
  have w2 := hW ((nd S).loop (· + 1)) _ k2 j1 (by show D (l.drop (nd S).pc) 1 = _; rw [r3]; exact e2) (by omega)
  have e8 : ((nd S).loop (· + 1)).pc = p + 1 + k1 := by show (nd S).pc = _; rw [r3, hpc]
  rw [hpc] at w1
  rw [e8] at w2
  have e7 : fnL l (p + 1) k = fnL l (p + 1) k1 ++ fnL l (p + 1 + k1) k2 := by rw [e3, fnL_add]
  rw [e7]
  exact ((((w1.wide hp1 (by omega)).trans (Wk.top _ _)).trans (w2.wide (by omega) (by omega))).trans (Wk.top _ _)).cast (by simp)
 ·rw [if_neg h6]
  simp only
  have key : ∀ (S1 : MS), Inv l b S1 → Wk p (k + 1) [] S S1 → S1.pc = S.pc → Wk p (k + 1) (fnL l (p + 1) k) S (times nd x.n.toNat S1) := by
   intro S1 i1 i2 i3
   have r := times_wk hN hW x.n.toNat S1 b k i1 (by rw [i3]; exact hD) hkf
   rw [i3, hpc] at r
   exact i2.trans (r.wide hp1 hp2)
  split
  ·exact key _ (h.failIf _ _ _) (Wk.failIf S _ _ _ (by decide)) (failIf_rest S _ _ _).2.2.2.2.2.2
  ·split
   ·exact key _ (h.failIf _ _ _) (Wk.failIf S _ _ _ (by decide)) (failIf_rest S _ _ _).2.2.2.2.2.2
   ·exact key _ h (Wk.same rfl rfl rfl rfl) rfl

theorem nodeW (P : Prg l) (hl : l.length ≤ 400) (g : List (Bs × Nat)) : ∀ f, NodeW l (nodeM l g f) f
 | 0, S, b, k, h, hD, hk => by have := (D_le _ _ _ hD).1; omega
 | f + 1, S, b, k, h, hD, hk => by
  have hle := D_le _ _ _ hD
  rw [List.length_drop] at hle
  have hlt : S.pc < l.length := by omega
  rw [nodeM]
  by_cases he : S.e ≠ 0
  ·rw [if_pos he]
   exact ⟨fun q _ => ⟨rfl, rfl⟩, fun h => h, fun h => absurd h he⟩
  ·rw [if_neg he, List.getElem?_eq_getElem hlt]
   simp only
   by_cases h19 : l[S.pc].kind = 19
   ·rw [if_pos h19]
    have hw := name_width hlt (P.ok _ (List.getElem_mem hlt)) h19
    rw [hw] at hD; cases hD
    rw [fnL_one hlt, if_neg (by omega)]
    exact Wk.name g false S hlt
   ·rw [if_neg h19]
    obtain ⟨d1, d2, d3⟩ := D_kids hlt hD
    have h0 := h.go (p := S.pc + 1) (Nat.le_succ _) hlt
    have r := step_wk P hl g (nodeI P hl g f) (nodeW P hl g f) (S := { S with pc := S.pc + 1 }) (k := k - 1) hlt h0 rfl (by simp only; have := h.nfr; omega) d3 (by omega)
    rw [show k - 1 + 1 = k by omega] at r
    exact (Wk.go S _).trans r
end
end Go.Proofs.YtihokakelnfdgaaDoor

namespace Go.Proofs.YtihokakelnfdgaaDoor
set_option linter.unusedSimpArgs false
open Go Go.Ev
set_option linter.unusedVariables false

/-! Which globals a walk adds. -/
def isTopK : List (Nat × Nat × Nat) → Bool
 | [] => true
 | (a, b, _) :: _ => decide (a = 0) && decide (b = 0)
theorem isTop_frK (S : MS) : isTop S = isTopK (frK S) := by
 unfold isTop MS.topFn MS.topScopes frK
 cases S.frames with
 | nil => rfl
 | cons f r =>
  simp only [List.map_cons, isTopK]
  cases f.scopes <;> simp
theorem isTop_same {S S' : MS} (h : frK S' = frK S) : isTop S' = isTop S := by rw [isTop_frK, isTop_frK, h]
theorem isTop_enter {S : MS} (h : S.frames ≠ []) : isTop S.enter = false := by
 rw [isTop_frK, frK_enter]
 unfold frK
 cases hS : S.frames with
 | nil => exact absurd hS h
 | cons f r => simp [bump, isTopK]
theorem declare_globals (S : MS) (s : Bs) (at_ : Nat) (pos : Int) : (S.declare s at_ pos).globals = S.globals := by
 unfold MS.declare
 simp only
 rw [(failIf_rest _ _ _ _).2.2.1, (failIf_rest _ _ _ _).2.2.1, (failIf_rest _ _ _ _).2.2.1]
theorem take_globals (f : Nat) (S : MS) (d k : Nat) (pos : Int) : (MS.take f S d k pos).1.globals = S.globals := (take_tk f S d k pos).globals
theorem name_globals {l : List Nd} (g : List (Bs × Nat)) (set : Bool) (S : MS) (hp : S.pc < l.length) : (MS.name l g set S).globals = S.globals := by
 rw [MS.name_find g set (List.getElem?_eq_getElem hp)]
 generalize l[S.pc] = x
 simp only
 have h0 : (({ S with pc := S.pc + 1 } : MS).failIf ((primI x.text).isSome && set) 8 x.pos).globals = S.globals := (failIf_rest _ _ _ _).2.2.1
 generalize ({ S with pc := S.pc + 1 } : MS).failIf ((primI x.text).isSome && set) 8 x.pos = S1 at h0
 cases hf : findFr x.text S1.frames with
 | some q =>
  obtain ⟨d, out⟩ := q
  cases out with
  | zero => exact h0
  | succ out => simp only [take_globals]; exact h0
 | none =>
  simp only
  cases look x.text g with
  | some at_ => exact h0
  | none => simp only [(failIf_rest _ _ _ _).2.2.1]; exact h0
theorem params_globals {l : List Nd} : ∀ (n : Nat) (S : MS), (MS.params l n S).globals = S.globals
 | 0, S => rfl
 | n + 1, S => by
  rw [MS.params]
  cases l[S.pc]? with
  | none => rfl
  | some x =>
   simp only
   rw [params_globals n]
   exact declare_globals S x.text S.pc x.pos
theorem open_globals (S : MS) (p : Nat) (x : Nd) : (S.open_ p x).globals = S.globals := by
 unfold MS.open_
 show (S.failIf _ _ _).globals = _
 rw [(failIf_rest _ _ _ _).2.2.1]

/-- kids that are no statements. -/
theorem kid_kind {l : List Nd} (P : Prg l) {p : Nat} (hp : p < l.length) (h12 : l[p].kind ≠ 1 ∧ l[p].kind ≠ 2) : ∀ q ∈ kidsP l l[p].n.toNat (p + 1), ∀ hq : q < l.length, l[q].kind ≠ 1 ∧ l[q].kind ≠ 3 ∧ l[q].kind ≠ 12 := by
 intro q hq hql
 obtain ⟨i, hi, hiq⟩ := List.getElem_of_mem hq
 rw [kidsP_len] at hi
 have h0 := P.pos _ (List.getElem_mem hp)
 obtain ⟨q', f1, f2, f3⟩ := P.kid (i := i) hp (by omega)
 have : q' = q := by
  rw [List.getElem?_eq_getElem (by rw [kidsP_len]; exact hi)] at f1
  exact (Option.some.inj f1).symm.trans hiq
 subst this
 have hpl : placeR l[p] i ≠ 0 ∧ placeR l[p] i ≠ 1 := by
  unfold placeR
  (repeat' split) <;> omega
 unfold mayB at f3
 rw [if_neg hpl.1, if_neg hpl.2] at f3
 (repeat' split at f3) <;> have := of_decide_eq_true f3 <;> omega
theorem top_kind {l : List Nd} (P : Prg l) {p : Nat} (hp : p < l.length) (h12 : l[p].kind = 1 ∨ l[p].kind = 2) : ∀ q ∈ kidsP l l[p].n.toNat (p + 1), ∀ hq : q < l.length, 2 ≤ l[q].kind ∧ l[q].kind ≤ 13 := by
 intro q hq hql
 obtain ⟨i, hi, hiq⟩ := List.getElem_of_mem hq
 rw [kidsP_len] at hi
 have h0 := P.pos _ (List.getElem_mem hp)
 obtain ⟨q', f1, f2, f3⟩ := P.kid (i := i) hp (by omega)
 have : q' = q := by
  rw [List.getElem?_eq_getElem (by rw [kidsP_len]; exact hi)] at f1
  exact (Option.some.inj f1).symm.trans hiq
 subst this
 have hpl : placeR l[p] i = 1 := by
  unfold placeR
  rw [if_pos h12]
 unfold mayB at f3
 rw [hpl] at f3
 exact of_decide_eq_true (by simpa using f3)

def NodeG (l : List Nd) (nd : MS → MS) (f : Nat) : Prop := ∀ (S : MS) (b k : Nat), Inv l b S → D (l.drop S.pc) 1 = some k → k ≤ f → (isTop S = false ∨ ∀ hp : S.pc < l.length, l[S.pc].kind ≠ 1 ∧ l[S.pc].kind ≠ 3 ∧ l[S.pc].kind ≠ 12) → (nd S).globals = S.globals
section
variable {l : List Nd} {nd : MS → MS} {f b k : Nat} {S : MS}
theorem times_g (hN : NodeI l nd f) (hG : NodeG l nd f) : ∀ (n : Nat) (S : MS) (b k : Nat), Inv l b S → D (l.drop S.pc) n = some k → k ≤ f → (isTop S = false ∨ ∀ q ∈ kidsP l n S.pc, ∀ hq : q < l.length, l[q].kind ≠ 1 ∧ l[q].kind ≠ 3 ∧ l[q].kind ≠ 12) → (times nd n S).globals = S.globals
 | 0, S, b, k, h, hD, hk, _ => rfl
 | n + 1, S, b, k, h, hD, hk, hc => by
  obtain ⟨k1, k2, e1, e2, e3, e4, e5, e6⟩ := D_next hD
  obtain ⟨i1, i2, i3⟩ := hN S b k1 h e1 (by omega)
  have g1 := hG S b k1 h e1 (by omega) (hc.imp id fun hc hp => hc S.pc (by rw [kidsP]; exact List.mem_cons_self) hp)
  rw [times, times_g hN hG n (nd S) _ k2 i1 (by rw [i3]; exact e2) (by omega) (hc.imp (fun h => by rw [isTop_same i2.fr]; exact h) fun hc q hq => hc q (by rw [kidsP, e1, Option.getD_some]; rw [i3] at hq; exact List.mem_cons_of_mem _ hq)), g1]
theorem function_g (P : Prg l) (hN : NodeI l nd f) (hG : NodeG l nd f) {p : Nat} (hp : p < l.length) (hk : l[p].kind = 12 ∨ l[p].kind = 31) (h : Inv l b S) (hpc : S.pc = p + 1) (hfr : S.frames.length + 1 ≤ S.pc) (hD : D (l.drop (p + 1)) l[p].n.toNat = some k) (hkf : k ≤ f) :
  (S.function l nd p l[p]).globals = S.globals := by
 obtain ⟨c1, c2, c3⟩ := cntF (P.ok _ (List.getElem_mem hp)) hk
 obtain ⟨num, hnum⟩ : ∃ n : Nat, l[p].num = n := ⟨l[p].num.toNat, by omega⟩
 have hpar := P.params hp hk
 have hpar' : ∀ i : Nat, i < num → ∃ hq : p + 1 + i < l.length, l[p + 1 + i].kind = 19 := fun i hi => hpar i (by omega)
 have hnD := names_D P.ok num (p + 1) hpar'
 rw [show l[p].n.toNat = num + 1 by omega] at hD
 obtain ⟨k1, k2, e1, e2, e3⟩ := D_add _ _ _ _ hD
 rw [hnD] at e1; cases e1
 rw [List.drop_drop] at e2
 have hle := D_le _ _ _ e2
 rw [List.length_drop] at hle
 obtain ⟨i1, i2, i3, i4, i5, i6⟩ := h.open_ hfr p l[p]
 obtain ⟨j1, j2, j3⟩ := params_inv P.ok num (S.open_ p l[p]) (b + 1) i1 (by rw [i6, hpc]; omega)
 have ht : isTop (MS.params l num (S.open_ p l[p])) = false := by
  rw [isTop_frK, j2.fr, i2]; simp [isTopK]
 have g := hG (MS.params l num (S.open_ p l[p])) (b + 1 + num) k2 j1 (by rw [j3, i6, hpc]; exact e2) (by omega) (.inl ht)
 unfold MS.function
 rw [show l[p].num.toNat = num by omega]
 show (nd (MS.params l num (S.open_ p l[p]))).globals = _
 rw [g, params_globals, open_globals]

theorem step_g (P : Prg l) (hl : l.length ≤ 400) (g : List (Bs × Nat)) (hN : NodeI l nd f) (hG : NodeG l nd f) {p : Nat} (hp : p < l.length) (h : Inv l b S) (hpc : S.pc = p + 1) (hfr : S.frames.length + 1 ≤ S.pc) (hD : D (l.drop (p + 1)) l[p].n.toNat = some k) (hkf : k ≤ f)
  (hc : isTop S = false ∨ (l[p].kind ≠ 1 ∧ l[p].kind ≠ 3 ∧ l[p].kind ≠ 12)) : (MS.step l g nd p l[p] S).globals = S.globals := by
 have hok := P.ok _ (List.getElem_mem hp)
 have hokl := P.ok
 have hkk := fun h12 => kid_kind P hp h12
 have hfun := fun (S1 : MS) (b : Nat) (hk : l[p].kind = 12 ∨ l[p].kind = 31) (h1 : Inv l b S1) (h2 : S1.pc = p + 1) (h3 : S1.frames.length + 1 ≤ S1.pc) => function_g (S := S1) (b := b) P hN hG hp hk h1 h2 h3 hD hkf
 generalize hx : l[p] = x at hD hok hkk hfun hc
 rw [← hpc] at hD hkk
 unfold MS.step
 by_cases h2 : x.kind = 2
 ·rw [if_pos h2]
  exact times_g hN hG x.n.toNat S.enter (b + 1) k h.enter hD hkf (.inl (isTop_enter h.ne))
 rw [if_neg h2]
 by_cases h3 : x.kind = 3
 ·rw [if_pos h3]
  have ht : isTop S = false := hc.elim id fun h => absurd h3 h.2.1
  rw [cnt1 hok h3] at hD
  unfold MS.variable
  rw [if_neg (by rw [ht]; simp)]
  obtain ⟨i1, i2, i3, i4, i5, i6⟩ := h.declare x.text p x.pos
  have r := hG _ _ k i1 (by rw [i3]; exact hD) hkf (.inl (by rw [isTop_same i2.fr]; exact ht))
  exact r.trans (declare_globals S x.text p x.pos)
 rw [if_neg h3]
 by_cases h12 : x.kind = 12
 ·rw [if_pos h12]
  have ht : isTop S = false := hc.elim id fun h => absurd h12 h.2.2
  rw [if_neg (by rw [ht]; simp)]
  obtain ⟨i1, i2, i3, i4, i5, i6⟩ := h.declare x.text p x.pos
  obtain ⟨j1, j2, j3⟩ := i1.bind x.text (d := S.decls.length) i5 (by rw [i6]; exact (topFn_frK i2.fr).1.symm)
  have hlen : ((S.declare x.text p x.pos).bind x.text S.decls.length).frames.length = S.frames.length := by rw [← frK_len, j2.fr, i2.fr, frK_len]
  have r := hfun _ _ (.inl h12) j1 (j3.trans (i3.trans hpc)) (by rw [hlen, j3, i3]; exact hfr)
  exact r.trans (declare_globals S x.text p x.pos)
 rw [if_neg h12]
 by_cases h31 : x.kind = 31
 ·rw [if_pos h31]
  exact hfun _ _ (.inr h31) h hpc hfr
 rw [if_neg h31]
 by_cases h1 : x.kind = 1 ∧ isTop S = true
 ·exact (hc.elim (fun h => by rw [h] at h1; cases h1.2) fun h => absurd h1.1 h.1)
 have hkids : isTop S = false ∨ ∀ q ∈ kidsP l x.n.toNat S.pc, ∀ hq : q < l.length, l[q].kind ≠ 1 ∧ l[q].kind ≠ 3 ∧ l[q].kind ≠ 12 := by
  cases ht : isTop S with
  | false => exact .inl rfl
  | true => exact .inr (hkk ⟨fun hh => h1 ⟨hh, ht⟩, h2⟩)
 by_cases h4 : x.kind = 4
 ·rw [if_pos h4]
  rw [cnt2 hok (.inl h4)] at hD hkids
  have hD2 : D (l.drop S.pc) 2 = some k := hD
  have hkids2 : isTop S = false ∨ ∀ q ∈ kidsP l 2 S.pc, ∀ hq : q < l.length, l[q].kind ≠ 1 ∧ l[q].kind ≠ 3 ∧ l[q].kind ≠ 12 := hkids
  obtain ⟨k1, k2, e1, e2, e3, e4, e5, e6⟩ := D_next hD2
  rw [List.getElem?_eq_getElem e5]
  simp only
  by_cases hy : l[S.pc].kind = 19
  ·rw [if_pos hy]
   have hw := name_width e5 (hokl _ (List.getElem_mem e5)) hy
   rw [hw] at e1; cases e1
   obtain ⟨i1, i2, i3⟩ := h.name hl g true e5
   have r := hG _ _ k2 i1 (by rw [i3]; exact e2) (by omega) (hkids2.imp (fun h => by rw [isTop_same i2.fr]; exact h) fun hc hp => hc _ (by rw [i3]; simp [kidsP, hw]) hp)
   rw [r, name_globals g true S e5]
  ·rw [if_neg hy]
   exact times_g hN hG 2 S b k h hD2 hkf hkids2
 rw [if_neg h4]
 by_cases h11 : x.kind = 11
 ·rw [if_pos h11]
  rw [cnt2 hok (.inr (.inr h11))] at hD
  have hD2 : D (l.drop S.pc) 2 = some k := hD
  obtain ⟨k1, k2, e1, e2, e3, e4, e5, e6⟩ := D_next hD2
  unfold MS.try_
  have htE := isTop_enter h.ne
  obtain ⟨i1, i2, i3, i4, i5, i6⟩ := h.enter.declare x.text p x.pos
  obtain ⟨r1, r2, r3⟩ := hN _ _ k1 i1 (by rw [i3]; exact e1) (by omega)
  have hd := r2.declFn i5
  obtain ⟨j1, j2, j3⟩ := r1.bind x.text (d := S.enter.decls.length) hd.2 (by rw [hd.1, i6]; exact (topFn_frK (i2.trans r2).fr).1.symm)
  have w1 := hG _ _ k1 i1 (by rw [i3]; exact e1) (by omega) (.inl (by rw [isTop_same i2.fr]; exact htE))
  have w2 := hG _ _ k2 j1 (by rw [j3, r3, i3]; exact e2) (by omega) (.inl (by rw [isTop_same ((i2.trans r2).trans j2).fr]; exact htE))
  exact w2.trans (w1.trans (declare_globals S.enter x.text p x.pos))
 rw [if_neg h11]
 unfold MS.plain
 by_cases h6 : x.kind = 6
 ·rw [if_pos h6]
  rw [cnt2 hok (.inr (.inl h6))] at hD hkids
  have hD2 : D (l.drop S.pc) 2 = some k := hD
  have hkids2 : isTop S = false ∨ ∀ q ∈ kidsP l 2 S.pc, ∀ hq : q < l.length, l[q].kind ≠ 1 ∧ l[q].kind ≠ 3 ∧ l[q].kind ≠ 12 := hkids
  obtain ⟨k1, k2, e1, e2, e3, e4, e5, e6⟩ := D_next hD2
  obtain ⟨r1, r2, r3⟩ := hN _ _ k1 h e1 (by omega)
  have j1 := r1.loop (· + 1) (b' := b + 2 * k1 + 1) (Nat.le_succ _) (fun n hn => by show n + 1 ≤ _; omega)
  have w1 := hG _ _ k1 h e1 (by omega) (hkids2.imp id fun hc hp => hc _ (by simp [kidsP]) hp)
  have ht2 : isTop ((nd S).loop (· + 1)) = isTop S := by
   rw [isTop_frK, frK_loop, r2.fr, isTop_frK]
   cases frK S with
   | nil => rfl
   | cons q r => obtain ⟨a, b, c⟩ := q; rfl
  have w2 := hG ((nd S).loop (· + 1)) _ k2 j1 (by show D (l.drop (nd S).pc) 1 = _; rw [r3]; exact e2) (by omega) (hkids2.imp (fun h => by rw [ht2]; exact h) fun hc hp => by
   have e8 : ((nd S).loop (· + 1)).pc = S.pc + k1 := r3
   exact hc _ (by rw [e8]; simp [kidsP, e1]) hp)
  exact w2.trans w1
 ·rw [if_neg h6]
  simp only
  have key : ∀ (S1 : MS), Inv l b S1 → S1.globals = S.globals → frK S1 = frK S → S1.pc = S.pc → (times nd x.n.toNat S1).globals = S.globals := by
   intro S1 i1 i2 i3 i4
   rw [times_g hN hG x.n.toNat S1 b k i1 (by rw [i4]; exact hD) hkf (by rw [isTop_same i3, i4]; exact hkids)]
   exact i2
  split
  ·exact key _ (h.failIf _ _ _) (failIf_rest S _ _ _).2.2.1 (Sh.failIf S _ _ _).fr (failIf_rest S _ _ _).2.2.2.2.2.2
  ·split
   ·exact key _ (h.failIf _ _ _) (failIf_rest S _ _ _).2.2.1 (Sh.failIf S _ _ _).fr (failIf_rest S _ _ _).2.2.2.2.2.2
   ·exact key _ h rfl rfl rfl
theorem nodeG (P : Prg l) (hl : l.length ≤ 400) (g : List (Bs × Nat)) : ∀ f, NodeG l (nodeM l g f) f
 | 0, S, b, k, h, hD, hk, hc => by have := (D_le _ _ _ hD).1; omega
 | f + 1, S, b, k, h, hD, hk, hc => by
  have hle := D_le _ _ _ hD
  rw [List.length_drop] at hle
  have hlt : S.pc < l.length := by omega
  rw [nodeM]
  by_cases he : S.e ≠ 0
  ·rw [if_pos he]
  ·rw [if_neg he, List.getElem?_eq_getElem hlt]
   simp only
   by_cases h19 : l[S.pc].kind = 19
   ·rw [if_pos h19]
    exact name_globals g false S hlt
   ·rw [if_neg h19]
    obtain ⟨d1, d2, d3⟩ := D_kids hlt hD
    have h0 := h.go (p := S.pc + 1) (Nat.le_succ _) hlt
    exact step_g P hl g (nodeI P hl g f) (nodeG P hl g f) (S := { S with pc := S.pc + 1 }) (k := k - 1) hlt h0 rfl (by simp only; have := h.nfr; omega) d3 (by omega) (hc.imp (fun h => h) fun h => h hlt)
end
end Go.Proofs.YtihokakelnfdgaaDoor

namespace Go.Proofs.YtihokakelnfdgaaDoor
set_option linter.unusedSimpArgs false
open Go Go.Ev
set_option linter.unusedVariables false

/-! What Resolve tells of a program's globals and functions. -/
theorem root_kind {l : List Nd} (h : okProg l = true) (h0 : 0 < l.length) : l[0].kind = 1 := by
 cases l with
 | nil => simp at h0
 | cons x r =>
  unfold okProg at h
  rw [accept_cons _ _ _ _ _ (by decide)] at h
  simp only [Bool.and_eq_true] at h
  have := h.1
  simpa [mayB, root] using this

section
variable {l : List Nd} {f b k : Nat} {S : MS}
theorem global_get (g : List (Bs × Nat)) (S : MS) (s : Bs) (at_ : Nat) (pos : Int) (hu : at_ < S.uses.length) : (MS.global g S s at_ pos).globals = S.globals ++ [s] ∧ (MS.global g S s at_ pos).uses[at_]? = some (4, S.globals.length) ∧ (MS.global g S s at_ pos).means = S.means := by
 rw [show MS.global g S s at_ pos = (let S3 := ((S.failIf (primI s).isSome 8 pos).failIf (globC g s at_) 80 pos).failIf (decide (S.globals.length = 1024)) 3 pos; { S3 with uses := S3.uses.set at_ (4, S.globals.length), globals := S3.globals ++ [s] }) from rfl]
 obtain ⟨z1, z2, z3, z4, z5, z6, z7⟩ := failIf_rest S (primI s).isSome 8 pos
 obtain ⟨y1, y2, y3, y4, y5, y6, y7⟩ := failIf_rest (S.failIf (primI s).isSome 8 pos) (globC g s at_) 80 pos
 obtain ⟨x1, x2, x3, x4, x5, x6, x7⟩ := failIf_rest ((S.failIf (primI s).isSome 8 pos).failIf (globC g s at_) 80 pos) (decide (S.globals.length = 1024)) 3 pos
 simp only
 refine ⟨by rw [x3, y3, z3], ?_, by rw [x5, y5, z5]⟩
 rw [x2, y2, z2, List.getElem?_set_self hu]

/-- a part right below the program. -/
theorem node_top (P : Prg l) (hl : l.length ≤ 400) (g : List (Bs × Nat)) (h : Inv l b S) (ht : isTop S = true) (hD : D (l.drop S.pc) 1 = some k) (hk : k ≤ f + 1) (hlt : S.pc < l.length) (hkd : 2 ≤ l[S.pc].kind ∧ l[S.pc].kind ≤ 13) (he : (nodeM l g (f + 1) S).e = 0) :
  (nodeM l g (f + 1) S).globals = S.globals ++ (if isDecl l S.pc then [nameAt l S.pc] else []) ∧ (isDecl l S.pc = true → (nodeM l g (f + 1) S).uses[S.pc]? = some (4, S.globals.length) ∧ (nodeM l g (f + 1) S).means[S.pc]? = S.means[S.pc]?) := by
 have hdec : isDecl l S.pc = decide (l[S.pc].kind = 3 ∨ l[S.pc].kind = 12) := by unfold isDecl; rw [List.getElem?_eq_getElem hlt]
 have hnm : nameAt l S.pc = l[S.pc].text := by unfold nameAt; rw [List.getElem?_eq_getElem hlt]
 have he0 : S.e = 0 := Decidable.byContradiction fun hh => (nodeW P hl g (f + 1) S b k h hD hk).e hh he
 by_cases hd : l[S.pc].kind = 3 ∨ l[S.pc].kind = 12
 ·rw [hdec, decide_eq_true hd, if_pos rfl]
  obtain ⟨d1, d2, d3⟩ := D_kids hlt hD
  have h0 := h.go (p := S.pc + 1) (Nat.le_succ _) hlt
  have hok := P.ok _ (List.getElem_mem hlt)
  have hN := nodeI P hl g f
  have hW := nodeW P hl g f
  have hG := nodeG P hl g f
  have ht0 : isTop { S with pc := S.pc + 1 } = true := ht
  rw [nodeM, if_neg (by omega), List.getElem?_eq_getElem hlt]
  simp only
  rw [if_neg (by omega)]
  obtain ⟨i1, i2, i3⟩ := h0.global g l[S.pc].text S.pc l[S.pc].pos
  obtain ⟨g1, g2, g3⟩ := global_get g { S with pc := S.pc + 1 } l[S.pc].text S.pc l[S.pc].pos (by simp only; rw [h.uses]; exact hlt)
  simp only at g1 g2 g3 i3
  unfold MS.step
  rw [if_neg (by omega)]
  by_cases h3 : l[S.pc].kind = 3
  ·rw [if_pos h3]
   unfold MS.variable
   rw [if_pos ht0]
   rw [cnt1 hok h3] at d3
   have hD1 : D (l.drop (S.pc + 1)) 1 = some (k - 1) := d3
   have hlt1 : S.pc + 1 < l.length := by
    have := D_le _ _ _ hD1
    rw [List.length_drop] at this
    omega
   have hkk := kid_kind P hlt (by omega)
   rw [cnt1 hok h3] at hkk
   have hgg := hG _ _ (k - 1) i1 (by rw [i3]; exact hD1) (by omega) (.inr fun hp => hkk _ (by rw [i3]; exact List.mem_cons_self) hp)
   have hww := hW _ _ (k - 1) i1 (by rw [i3]; exact hD1) (by omega)
   have hu := hww.u S.pc (.inl (by rw [i3]; exact Nat.lt_succ_self _))
   refine ⟨by rw [hgg, g1, hnm], fun _ => ⟨by rw [hu.1, g2], by rw [hu.2, g3]⟩⟩
  ·have h12 : l[S.pc].kind = 12 := by omega
   rw [if_neg h3, if_pos h12, if_pos ht0]
   have hlen : (MS.global g { S with pc := S.pc + 1 } l[S.pc].text S.pc l[S.pc].pos).frames.length = S.frames.length := by rw [← frK_len, i2.fr, frK_len]
   have hfr : (MS.global g { S with pc := S.pc + 1 } l[S.pc].text S.pc l[S.pc].pos).frames.length + 1 ≤ (MS.global g { S with pc := S.pc + 1 } l[S.pc].text S.pc l[S.pc].pos).pc := by rw [hlen, i3]; have := h.nfr; omega
   have hgg := function_g P hN hG hlt (.inl h12) i1 i3 hfr d3 (by omega)
   refine ⟨by rw [hgg, g1, hnm], fun _ => ?_⟩
   -- the place itself is not touched within
   obtain ⟨c1, c2, c3⟩ := cntF hok (.inl h12)
   obtain ⟨num, hnum⟩ : ∃ n : Nat, l[S.pc].num = n := ⟨l[S.pc].num.toNat, by omega⟩
   have hpar := P.params hlt (.inl h12)
   have hpar' : ∀ i : Nat, i < num → ∃ hq : S.pc + 1 + i < l.length, l[S.pc + 1 + i].kind = 19 := fun i hi => hpar i (by omega)
   have hnD := names_D P.ok num (S.pc + 1) hpar'
   rw [show l[S.pc].n.toNat = num + 1 by omega] at d3
   obtain ⟨k1, k2, e1, e2, e3⟩ := D_add _ _ _ _ d3
   rw [hnD] at e1; cases e1
   rw [List.drop_drop] at e2
   have hle := D_le _ _ _ e2
   rw [List.length_drop] at hle
   obtain ⟨o1, o2, o3, o4, o5, o6⟩ := i1.open_ hfr S.pc l[S.pc]
   obtain ⟨j1, j2, j3⟩ := params_inv P.ok num _ _ o1 (by rw [o6, i3]; omega)
   have w2 := params_wk P.ok num _ _ o1 (by rw [o6, i3]; omega)
   have w3 := hW _ _ k2 j1 (by rw [j3, o6, i3]; exact e2) (by omega)
   unfold MS.function
   rw [show l[S.pc].num.toNat = num by omega]
   have u3 := w3.u S.pc (.inl (by rw [j3, o6, i3]; omega))
   have u2 := w2.u S.pc (.inl (by rw [o6, i3]; omega))
   have ho : ∀ (T : MS) (x : Nd), (T.open_ S.pc x).uses = T.uses ∧ (T.open_ S.pc x).means = T.means := fun T x => ⟨(failIf_rest _ _ _ _).2.1, (failIf_rest _ _ _ _).2.2.2.2.1⟩
   refine ⟨?_, ?_⟩
   ·show (nodeM l g f (MS.params l num _)).uses[S.pc]? = _
    rw [u3.1, u2.1, (ho _ _).1, g2]
   ·show (nodeM l g f (MS.params l num _)).means[S.pc]? = _
    rw [u3.2, u2.2, (ho _ _).2, g3]
 ·rw [hdec, decide_eq_false hd]
  refine ⟨?_, fun h => by simp at h⟩
  rw [if_neg (by simp), List.append_nil]
  exact nodeG P hl g (f + 1) S b k h hD hk (.inr fun _ => by omega)

theorem times_top (P : Prg l) (hl : l.length ≤ 400) (g : List (Bs × Nat)) : ∀ (n : Nat) (S : MS) (b k : Nat), Inv l b S → isTop S = true → D (l.drop S.pc) n = some k → k ≤ f + 1 → (∀ q ∈ kidsP l n S.pc, ∀ hq : q < l.length, 2 ≤ l[q].kind ∧ l[q].kind ≤ 13) → (∀ q o, S.pc ≤ q → S.means[q]? = some o → o = none) → (times (nodeM l g (f + 1)) n S).e = 0 →
  (times (nodeM l g (f + 1)) n S).globals = S.globals ++ ((kidsP l n S.pc).filter (isDecl l)).map (nameAt l) ∧
  ∀ (j q : Nat), ((kidsP l n S.pc).filter (isDecl l))[j]? = some q → (times (nodeM l g (f + 1)) n S).uses[q]? = some (4, S.globals.length + j) ∧ (times (nodeM l g (f + 1)) n S).means[q]? = some none
 | 0, S, b, k, h, ht, hD, hk, hkd, hm, he => ⟨by simp [times, kidsP], fun j q hq => by simp [kidsP] at hq⟩
 | n + 1, S, b, k, h, ht, hD, hk, hkd, hm, he => by
  obtain ⟨k1, k2, e1, e2, e3, e4, e5, e6⟩ := D_next hD
  have hN := nodeI P hl g (f + 1)
  have hW := nodeW P hl g (f + 1)
  obtain ⟨i1, i2, i3⟩ := hN S b k1 h e1 (by omega)
  have w := hW S b k1 h e1 (by omega)
  rw [times] at he ⊢
  have w2 := times_wk hN hW n (nodeM l g (f + 1) S) _ k2 i1 (by rw [i3]; exact e2) (by omega)
  have he1 : (nodeM l g (f + 1) S).e = 0 := Decidable.byContradiction fun hh => w2.e hh he
  have hkids : kidsP l (n + 1) S.pc = S.pc :: kidsP l n (S.pc + k1) := by rw [kidsP, e1]; rfl
  rw [hkids] at hkd ⊢
  obtain ⟨t1, t2⟩ := node_top P hl g h ht e1 (by omega) e5 (hkd S.pc List.mem_cons_self e5) he1
  obtain ⟨r1, r2⟩ := times_top P hl g n (nodeM l g (f + 1) S) _ k2 i1 (by rw [isTop_same i2.fr]; exact ht) (by rw [i3]; exact e2) (by omega) (fun q hq => hkd q (by rw [i3] at hq; exact List.mem_cons_of_mem _ hq)) (fun q o hq ho => by
   rw [i3] at hq
   rw [(w.u q (.inr hq)).2] at ho
   exact hm q o (by omega) ho) he
  rw [i3] at r1 r2
  have hu := w2.u S.pc (.inl (by rw [i3]; omega))
  have hmS : S.means[S.pc]? = some none := by
   have hlt : S.pc < S.means.length := by rw [h.means]; exact e5
   have := hm S.pc _ (Nat.le_refl _) (List.getElem?_eq_getElem hlt)
   rw [List.getElem?_eq_getElem hlt, this]
  cases hd : isDecl l S.pc with
  | true =>
   rw [hd, if_pos rfl] at t1
   obtain ⟨t3, t4⟩ := t2 hd
   rw [List.filter_cons, hd, if_pos rfl]
   refine ⟨by rw [r1, t1, List.map_cons, List.append_assoc]; rfl, fun j q hq => ?_⟩
   cases j with
   | zero =>
    simp only [List.getElem?_cons_zero, Option.some.injEq] at hq
    subst hq
    exact ⟨by rw [hu.1, t3]; rfl, by rw [hu.2, t4, hmS]⟩
   | succ j =>
    rw [List.getElem?_cons_succ] at hq
    obtain ⟨s1, s2⟩ := r2 j q hq
    refine ⟨?_, s2⟩
    rw [s1, t1]; simp; omega
  | false =>
   rw [hd] at t1
   rw [List.filter_cons, hd]
   simp only [Bool.false_eq_true, if_false] at t1 ⊢
   rw [List.append_nil] at t1
   refine ⟨by rw [r1, t1], fun j q hq => ?_⟩
   rw [← t1]
   exact r2 j q hq
end

theorem walked_globals {l : List Nd} (hp : okProg l = true) (hl : l.length ≤ 400) (h0 : 0 < l.length) (he : (walked l).e = 0) :
  (walked l).globals = ((tops l).filter (isDecl l)).map (nameAt l) ∧
  (∀ (j q : Nat), ((tops l).filter (isDecl l))[j]? = some q → (finish (walked l).decls (walked l).means (walked l).uses)[q]? = some (4, j)) ∧
  fnK (walked l) = (0, 0) :: fnL l 0 l.length ∧ (walked l).uses.length = l.length := by
 have P := okProg_prg hp
 have hall := (prog_D hp).1
 have hD1 := (D_kids (at_ := 0) h0 (by simpa using hall)).2.2
 have hwk : walked l = times (nodeM l (hoisted l) l.length) l[0].n.toNat (start l) := by unfold walked; rw [List.getElem?_eq_getElem h0]
 have htops : tops l = kidsP l l[0].n.toNat 1 := by unfold tops; rw [List.getElem?_eq_getElem h0]
 have hinv : Inv l 1 (start l) := { pc := h0, ne := by simp [start], nfr := by simp [start], uses := by simp [start], means := by simp [start], globals := by simp [start], nf := by simp [start], slots := by simp [start], caps := by simp [start], fr := by simp [start], refs := ⟨by simp [start], by simp [start]⟩, own := by simp [start] }
 obtain ⟨f, hf⟩ : ∃ f, l.length = f + 1 := ⟨l.length - 1, by omega⟩
 have hN := nodeI P hl (hoisted l) l.length
 have hW := nodeW P hl (hoisted l) l.length
 have hD1' : D (l.drop (start l).pc) l[0].n.toNat = some (l.length - 1) := hD1
 obtain ⟨wi1, wi2, wi3⟩ := times_inv hN l[0].n.toNat (start l) 1 (l.length - 1) hinv hD1' (by omega)
 have ww := times_wk hN hW l[0].n.toNat (start l) 1 (l.length - 1) hinv hD1' (by omega)
 rw [← hwk] at wi1 ww
 have hkd := top_kind P h0 (.inl (root_kind hp h0))
 have he' := he
 rw [hwk, hf] at he'
 obtain ⟨r1, r2⟩ := times_top (f := f) P hl (hoisted l) l[0].n.toNat (start l) 1 (l.length - 1) hinv rfl hD1' (by omega) hkd (fun q o hq ho => by
  have : (start l).means = List.replicate l.length none := rfl
  rw [this] at ho
  have := List.mem_of_getElem? ho
  exact List.eq_of_mem_replicate this) he'
 rw [← hf, ← hwk] at r1 r2
 have e1 : (start l).globals = [] := rfl
 have e2 : (start l).pc = 1 := rfl
 rw [e1, e2, ← htops] at r1 r2
 refine ⟨by rw [r1]; rfl, fun j q hq => ?_, ?_, wi1.uses⟩
 ·obtain ⟨s1, s2⟩ := r2 j q hq
  rw [finish_zip _ _ _ (by rw [wi1.means, wi1.uses]), List.getElem?_zipWith, s1, s2]
  simp only [List.length_nil, Nat.zero_add]
  rfl
 ·rw [ww.f he]
  have e3 : fnK (start l) = [(0, 0)] := rfl
  have e4 : fnL l 0 l.length = fnL l 0 1 ++ fnL l 1 (l.length - 1) := by rw [← fnL_add]; congr 1; omega
  rw [e3, e2, e4, fnL_one h0, if_neg (by rw [root_kind hp h0]; omega)]
  rfl
end Go.Proofs.YtihokakelnfdgaaDoor
