/- Part of a verified evaluator of the model's programs and of runs by it: EvArg EvChain EvPiece. -/
import Derived.Test.YthhcnfgeacnfiaaGreatDoorEvU
import Derived.Test.YthhcnfgeacnfiaaGreatDoorEvG
namespace Go.Ev
open Go.RowKit
set_option linter.unusedVariables false

/-- a memory that holds the cells of one argument, and nothing else; G variables of packages stand ahead of it, unlooked at. -/
def argMem (G off : Nat) (l : List Value) (e : TypeId) : Mem := { t := (Tree.leaf : Tree AObj).set (G + 1) G (.cells (off + l.length) (ofListFrom .leaf off l) e 1), next := G + 1 }

def argPhi (G b' : Nat) : Phi := ⟨fun b => if b < G then some b else if b = G then some b' else none, fun _ => 0⟩

theorem argMem_get (G off : Nat) (l : List Value) (e : TypeId) : (argMem G off l e).get G = some (.cells (off + l.length) (ofListFrom .leaf off l) e 1) := Tree.get_set_same _ _ _ _ Nat.lt_two_pow_self
theorem argMem_other (G off : Nat) (l : List Value) (e : TypeId) {b : Nat} (h : b ≠ G) : (argMem G off l e).get b = none := by
  show (Tree.set (G + 1) .leaf G _).get b = none
  rw [Tree.get_set_other _ _ _ _ _ (fun h' => h h'.symm), Tree.get_leaf]

theorem argMem_rel [Sym] {P : Program} {G off b' : Nat} {l : List Value} {e : TypeId} {w : World} {c : Array Value} {fr : Nat × Nat} (hG : G ≤ w.heap.size) (hw : w.heap[b']? = some (.cells c e fr)) (hsz : off + l.length ≤ c.size)
    (hc : ∀ i, i < l.length → c[off + i]? = l[i]?) (hp : l.all plainCell = true) : Rel P G w (argPhi G b') (argMem G off l e) w where
  glob := fun g hg => if_pos hg
  lt := fun b x h => by
    have h' : (if b < G then some b else if b = G then some b' else none) = some x := h
    split at h'
    · cases h'; exact ⟨Nat.lt_succ_of_lt (by assumption), by omega⟩
    · split at h'
      · cases h'
        rename_i hb
        subst hb
        exact ⟨Nat.lt_succ_self _, (Array.getElem?_eq_some_iff.1 hw).1⟩
      · cases h'
  obj := fun b o x ho h => by
    by_cases hb : b = G
    · subst hb
      rw [argMem_get] at ho
      cases ho
      have h' : (if b < b then some b else if b = b then some b' else none) = some x := h
      rw [if_neg (Nat.lt_irrefl _), if_pos rfl] at h'
      cases h'
      refine ⟨c, fr, ⟨_, hw, fun _ => rfl⟩, hsz, fun i hi hs => ?_, fun h => absurd h (by decide), fun h => absurd rfl h⟩
      have hs' := hs rfl
      rw [get_ofList] at hs' ⊢
      by_cases hio : off ≤ i ∧ i < off + l.length
      · rw [if_pos hio]
        have hlt : i - off < l.length := by omega
        have e1 : l[i - off]? = some l[i - off] := List.getElem?_eq_getElem hlt
        have := hc (i - off) hlt
        rw [show off + (i - off) = i by omega, e1] at this
        exact ⟨_, _, e1, this, VR.plainCell _ (List.all_eq_true.1 hp _ (List.getElem_mem hlt))⟩
      · rw [if_neg hio, Tree.get_leaf] at hs'
        cases hs'
    · rw [argMem_other _ _ _ _ hb] at ho; cases ho
  inj := fun b₁ b₂ o₁ o₂ x h1 h2 _ _ _ _ => by
    have : ∀ b o, (argMem G off l e).get b = some o → b = G := fun b o h => by
      by_cases hb : b = G
      · exact hb
      · rw [argMem_other _ _ _ _ hb] at h; cases h
    rw [this _ _ h1, this _ _ h2]
  own := fun b o x ho hr _ => by
    by_cases hb : b = G
    · subst hb; rw [argMem_get] at ho; cases ho; cases hr
    · rw [argMem_other _ _ _ _ hb] at ho; cases ho
  fresh := fun b o ho => by
    by_cases hb : b = G
    · subst hb; exact Nat.lt_succ_self _
    · rw [argMem_other _ _ _ _ hb] at ho; cases ho
  below := Below.refl _ _

/-- a symbolic run over one argument's cells, in the model. -/
theorem runs_calls {E : Env} {G : Nat} (hE : ∀ [Sym], EnvOk E G) (hk : E.known = []) {off b' : Nat} {l : List Value} {e : TypeId} {w : World} {c : Array Value} {fr : Nat × Nat} (hG : G ≤ w.heap.size) (hw : w.heap[b']? = some (.cells c e fr)) (hsz : off + l.length ≤ c.size)
    (hc : ∀ i, i < l.length → c[off + i]? = l[i]?) (hp : l.all plainCell = true) {f : Nat} {args args' : List Value} {v : Value} (hv : plainV v = true) (hr : Runs E f args (argMem G off l e) fun u _ => u = v)
    (ha : ∀ [Sym], VRs (argPhi G b') args args') : Calls E.P f ⟨args'⟩ w fun x w' => x = .returned v ∧ Below w.heap.size w w' := by
  letI : Sym := ⟨fun _ => none⟩
  obtain ⟨n, u, m', h1, rfl⟩ := hr
  obtain ⟨_, hcalls⟩ := (ev_sound (w0 := w) hE (known_none hk w) n).2.2.1 f args args' _ m' _ _ w h1 ha (argMem_rel hG hw hsz hc hp)
  refine hcalls.mono fun x w' hx => ?_
  obtain ⟨φ', v', rfl, _, hv', hrel⟩ := hx
  rw [hv'.plain_eq hv]
  exact ⟨rfl, hrel.below⟩

/-- a symbolic run that looks at no memory ahead. -/
theorem runs_calls0 {E : Env} {G : Nat} (hE : ∀ [Sym], EnvOk E G) (hk : E.known = []) {w : World} (hG : G ≤ w.heap.size) {f : Nat} {args args' : List Value} {v : Value} (hv : plainV v = true) (hr : ∀ m, Runs E f args m fun u _ => u = v)
    (ha : ∀ [Sym], VRs ⟨fun b => if b < G then some b else none, fun _ => 0⟩ args args') : Calls E.P f ⟨args'⟩ w fun x w' => x = .returned v ∧ Below w.heap.size w w' := by
  letI : Sym := ⟨fun _ => none⟩
  have hrel : Rel E.P G w ⟨fun b => if b < G then some b else none, fun _ => 0⟩ { t := .leaf, next := G } w := by
    have none' : ∀ b, (({ t := .leaf, next := G } : Mem)).get b = none := fun b => Tree.get_leaf b
    refine ⟨fun g hg => if_pos hg, fun b x h => ?_, fun b o x ho => ?_, fun b₁ b₂ o₁ o₂ x h1 => ?_, fun b o x ho => ?_, fun b o ho => ?_, Below.refl _ _⟩
    · have h' : (if b < G then some b else none) = some x := h
      split at h'
      · cases h'; exact ⟨by assumption, by omega⟩
      · cases h'
    · rw [none'] at ho; cases ho
    · rw [none'] at h1; cases h1
    · rw [none'] at ho; cases ho
    · rw [none'] at ho; cases ho
  obtain ⟨n, u, m', h1, rfl⟩ := hr { t := .leaf, next := G }
  obtain ⟨_, hcalls⟩ := (ev_sound (w0 := w) hE (known_none hk w) n).2.2.1 f args args' _ m' _ _ w h1 ha hrel
  refine hcalls.mono fun x w' hx => ?_
  obtain ⟨φ', v', rfl, _, hv', hrel'⟩ := hx
  rw [hv'.plain_eq hv]
  exact ⟨rfl, hrel'.below⟩
end Go.Ev

namespace Go.Ev
open Go.RowKit
set_option linter.unusedVariables false

/-- objects that are kept, by their numbers. -/
def keepMem (n : Nat) : List (Nat × AObj) → Mem
  | [] => { t := .leaf, next := n }
  | (b, o) :: l => (keepMem n l).put b o

theorem keepMem_next (n : Nat) : ∀ l, (keepMem n l).next = n
  | [] => rfl
  | (b, o) :: l => keepMem_next n l
theorem keepMem_get (n : Nat) : ∀ (l : List (Nat × AObj)) (b : Nat) (o : AObj), (keepMem n l).get b = some o → (b, o) ∈ l
  | [], b, o, h => by
    have : (keepMem n []).get b = none := Tree.get_leaf b
    rw [this] at h; cases h
  | (x, p) :: l, b, o, h => by
    by_cases hb : b = x
    · subst hb
      have : (keepMem n ((b, p) :: l)).get b = some p := mget_put _ _ _
      rw [this] at h; cases h
      exact List.mem_cons_self
    · have : (keepMem n ((x, p) :: l)).get b = (keepMem n l).get b := mget_put' _ _ _ hb
      rw [this] at h
      exact List.mem_cons_of_mem _ (keepMem_get n l b o h)

/-- an object with fewer cells, or the same. -/
def ObjLe : AObj → AObj → Prop
  | .cells n c e k, .cells n' c' e' k' => n = n' ∧ k = k' ∧ (k ≠ 1 → e = e') ∧ ∀ i, i < n → c.get i = c'.get i
  | .map es, .map es' => es = es'
  | .dead, _ => True
  | _, _ => False

theorem ObjLe.rel [Sym] {P : Program} {φ : Phi} {κ : Nat} {o o' : AObj} {ob : Option Obj} (h : ObjLe o o') (hr : ObjR P φ κ o' ob) : ObjR P φ κ o ob := by
  cases o with
  | dead => trivial
  | map es => cases o' <;> simp only [ObjLe] at h; subst h; exact hr
  | cells n c e k =>
    cases o' with
    | cells n' c' e' k' =>
      obtain ⟨rfl, rfl, he, h4⟩ := h
      obtain ⟨w, fr, ⟨e2, g1, g1'⟩, g2, g3, g4, g5⟩ := hr
      exact ⟨w, fr, ⟨e2, g1, fun hk => (g1' hk).trans (he hk).symm⟩, g2, fun i hi hs => by rw [h4 i hi] at hs ⊢; exact g3 i hi hs, g4, fun hk => by rw [he hk]; exact g5 hk⟩
    | _ => cases h
theorem ObjLe.rw {o o' : AObj} (h : ObjLe o o') (hr : o.rw = true) : o'.rw = true ∧ o'.alive = true := by
  cases o with
  | dead => cases hr
  | map es => cases o' <;> simp only [ObjLe] at h; exact ⟨rfl, rfl⟩
  | cells n c e k =>
    cases o' with
    | cells n' c' e' k' =>
      obtain ⟨rfl, rfl, _, h4⟩ := h
      by_cases hk : k = 1
      · subst hk; cases hr
      · refine ⟨?_, rfl⟩
        unfold AObj.rw
        split <;> first | rfl | (rename_i heq; cases heq; exact absurd rfl hk) | (rename_i heq; cases heq)
    | _ => cases h
theorem ObjLe.alive {o o' : AObj} (h : ObjLe o o') (ha : o.alive = true) : o'.alive = true := by
  cases o <;> cases o' <;> first | rfl | (cases ha; done) | (simp [ObjLe] at h; done)

/-- fewer objects do. -/
theorem Rel.drop [Sym] {P : Program} {G : Nat} {w0 w : World} {φ : Phi} {m m2 : Mem} (h : Rel P G w0 φ m w) (hn : m2.next = m.next) (hg : ∀ b o, m2.get b = some o → ∃ o', m.get b = some o' ∧ ObjLe o o') : Rel P G w0 φ m2 w where
  glob := h.glob
  lt := fun b b' e => by rw [hn]; exact h.lt b b' e
  obj := fun b o b' ho e => let ⟨o', h1, h2⟩ := hg b o ho; h2.rel (h.obj b o' b' h1 e)
  inj := fun b₁ b₂ o₁ o₂ b' h1 h2 a1 a2 e1 e2 => by
    obtain ⟨p1, q1, r1⟩ := hg _ _ h1
    obtain ⟨p2, q2, r2⟩ := hg _ _ h2
    exact h.inj b₁ b₂ p1 p2 b' q1 q2 (r1.alive a1) (r2.alive a2) e1 e2
  own := fun b o b' ho hr e => let ⟨o', h1, h2⟩ := hg b o ho; h.own b o' b' h1 (h2.rw hr).1 e
  fresh := fun b o ho => let ⟨o', h1, h2⟩ := hg b o ho; by rw [hn]; exact h.fresh b o' h1
  below := h.below

/-- the same cells, as far as they go. -/
def objSame : AObj → Option AObj → Bool
  | .cells n c e k, some (.cells n' c' e' k') => Nat.beq n n' && (Nat.beq k 1 || Nat.beq e e') && Nat.beq k k' && (match cellsFrom c 0 n, cellsFrom c' 0 n with | some l, some l' => sameCells1 l l' | _, _ => false)
  | .map [], some (.map []) => true
  | _, _ => false
theorem objSame_le {o : AObj} {o' : Option AObj} (h : objSame o o' = true) : ∃ p, o' = some p ∧ ObjLe o p := by
  letI : Sym := ⟨fun _ => none⟩
  unfold objSame at h
  split at h
  · rename_i n c e k n' c' e' k'
    simp only [Bool.and_eq_true] at h
    obtain ⟨⟨⟨h1, h2⟩, h3⟩, h4⟩ := h
    obtain rfl := Nat.eq_of_beq_eq_true h1
    obtain rfl := Nat.eq_of_beq_eq_true h3
    have he : k ≠ 1 → e = e' := fun hk => by
      rcases Bool.or_eq_true_iff.1 h2 with h | h
      · exact absurd (Nat.eq_of_beq_eq_true h) hk
      · exact Nat.eq_of_beq_eq_true h
    split at h4
    · rename_i l l' hl hl'
      obtain rfl := sameCells1_eq h4
      refine ⟨_, rfl, rfl, rfl, he, fun i hi => ?_⟩
      have e1 := cellsFrom_get hl i hi
      have e2 := cellsFrom_get hl' i hi
      rw [Nat.zero_add] at e1 e2
      rw [e1, e2]
    · cases h4
  · exact ⟨_, rfl, rfl⟩
  · cases h

/-- a run's answer, and what is kept of its memory. -/
def stepOk (r : Option (Value × Mem)) (vs : List Value) (n : Nat) (keep : List (Nat × AObj)) : Bool :=
  match r with
  | some (.tuple ⟨us⟩, m) => sameCellsV us vs && Nat.beq m.next n && keep.all fun q => objSame q.2 (m.get q.1)
  | _ => false
where
  sameCellsV : List Value → List Value → Bool
    | [], [] => true
    | a :: l, b :: r => sameV a b && sameCellsV l r
    | _, _ => false
end Go.Ev

namespace Go.Ev
open Go.RowKit
set_option linter.unusedVariables false

def sameVs : List Value → List Value → Bool
  | [], [] => true
  | a :: l, b :: r => sameV a b && sameVs l r
  | _, _ => false
def sameX : Value → Value → Bool
  | .tuple ⟨a⟩, .tuple ⟨b⟩ => sameVs a b
  | a, b => sameV a b
theorem sameVs_eq : ∀ {a b : List Value}, sameVs a b = true → a = b
  | [], [], _ => rfl
  | a :: l, b :: r, h => by
    letI : Sym := ⟨fun _ => none⟩
    simp only [sameVs, Bool.and_eq_true] at h
    rw [sameV_eq h.1, sameVs_eq h.2]
  | [], _ :: _, h => by simp [sameVs] at h
  | _ :: _, [], h => by simp [sameVs] at h
theorem sameX_eq {a b : Value} (h : sameX a b = true) : a = b := by
  letI : Sym := ⟨fun _ => none⟩
  unfold sameX at h
  split at h
  · rw [sameVs_eq h]
  · exact sameV_eq h

/-- the temporaries, from one on. -/
def tmpsSame (a : Act) : Nat → List Value → Bool
  | _, [] => true
  | t, v :: l => sameX (a.tmp t) v && tmpsSame a (t + 1) l
theorem tmpsSame_get {a : Act} : ∀ {l : List Value} {t : Nat}, tmpsSame a t l = true → ∀ i v, l[i]? = some v → a.tmp (t + i) = v
  | [], t, h, i, v, hv => by simp at hv
  | x :: l, t, h, 0, v, hv => by
    simp only [tmpsSame, Bool.and_eq_true] at h
    simp at hv
    rw [Nat.add_zero, sameX_eq h.1, hv]
  | x :: l, t, h, i + 1, v, hv => by
    simp only [tmpsSame, Bool.and_eq_true] at h
    have := tmpsSame_get h.2 i v (by simpa using hv)
    rw [show t + (i + 1) = t + 1 + i by omega]; exact this

/-- a piece came to its end, and left what is told. -/
def pieceOk (r : Option (Ex × Act)) (nt : Nat) (vals : List Value) (nx : Nat) (keep : List (Nat × AObj)) : Bool :=
  match r with
  | some (.normal, b) => b.defers.isEmpty && Nat.beq b.n nt && Nat.beq b.m.next nx && tmpsSame b 0 vals && keep.all fun q => objSame q.2 (b.m.get q.1)
  | _ => false

theorem piece [Sym] {E : Env} {G n : Nat} {w0 : World} (hC : CodeOk E G w0 n) {c : Code} (hc : codeOk G c = true) {vals vals' : List Value} {keep keep' : List (Nat × AObj)} {nx nx' nt : Nat}
    (h : pieceOk (code E n c (Act.start vals nt (keepMem nx keep))) nt vals' nx' keep' = true) (hl : vals'.length = nt) {φ : Phi} {ac : Go.Act} {w : World} {Q : Exit → Go.Act → World → Prop}
    (hA : ActR φ (Act.start vals nt (keepMem nx keep)) ac) (hR : Rel E.P G w0 φ (keepMem nx keep) w)
    (K : ∀ φ' ac' w', ActR φ' (Act.start vals' nt (keepMem nx' keep')) ac' → Rel E.P G w0 φ' (keepMem nx' keep') w' → Q .normal ac' w') : c.wp E.P Q ac w := by
  unfold pieceOk at h
  split at h
  · rename_i b hb
    simp only [Bool.and_eq_true, List.all_eq_true] at h
    obtain ⟨⟨⟨⟨h1, h2⟩, h3⟩, h4⟩, h5⟩ := h
    have hn := Nat.eq_of_beq_eq_true h2
    have hnx := Nat.eq_of_beq_eq_true h3
    refine hC c _ b .normal ac φ w Q hc hb hA (by rw [m_start]; exact hR) fun φ' ac' w' x _ hA' hR' hx => ?_
    cases hx
    refine K φ' ac' w' ⟨by rw [n_start, ← hn]; exact hA'.size, by rw [n_start, ← hn]; exact hA'.bound, fun t => ?_, ?_⟩ (hR'.drop (by rw [keepMem_next, hnx]) fun b' o ho => ?_)
    · rw [tmp_start]
      by_cases ht : t < vals'.length
      · have e1 : vals'[t]? = some vals'[t] := List.getElem?_eq_getElem ht
        have := tmpsSame_get h4 t _ e1
        rw [Nat.zero_add] at this
        rw [List.getD, e1, Option.getD_some, ← this]
        exact hA'.tmps t
      · have hs := hA'.size
        rw [List.getD, List.getElem?_eq_none (by omega), Option.getD_none]
        have : ac'.tmps.getD t undef = undef := by rw [Array.getD_eq_getD_getElem?, Array.getElem?_eq_none (by omega)]; rfl
        rw [this]
        exact VR.undef
    · rw [d_start]
      have := hA'.defers
      rw [List.isEmpty_iff.1 h1] at this
      exact this
    · have hm := keepMem_get nx' keep' b' o ho
      exact objSame_le (h5 (b', o) hm)
  · cases h
end Go.Ev
