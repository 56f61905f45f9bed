/- Part of a verified evaluator of the model's programs and of runs by it: SLA0 SXL SXN. -/
import Derived.Test.YtihokakelnfdgaaDoorSM
import Derived.Test.YtihokakelnfdgaaDoorSI
namespace Go.Proofs.YtihokakelnfdgaaDoor
open Go Go.Ev
set_option maxRecDepth 100000
set_option linter.unusedVariables false
set_option linter.unusedSimpArgs false
set_option pp.maxSteps 1500

theorem n_useNe {m : Mem} (a b : Int) : Bn evEnv m .neq 57 (.agg ⟨[I a, I b]⟩) (.agg ⟨[I a, I b]⟩) (.bool false) := by
 refine .mk ?_
 obtain ⟨f0, f1, h2, a1, a2, a3, b1, b2, b3⟩ : ∃ f0 f1 : Field, evEnv.under 57 = some (.struct #[f0, f1]) ∧ f0.offset = 0 ∧ f0.type = 3 ∧ f0.name = "Where" ∧ f1.offset = 1 ∧ f1.type = 3 ∧ f1.name = "N" := ⟨_, _, rfl, rfl, rfl, rfl, rfl, rfl, rfl⟩
 have h4 : evEnv.eqs.any (Nat.beq 57) = true := by rfl
 have h5 : evEnv.under 3 = some (.int .i64) := by rfl
 simp [Go.Ev.binOp, Go.Ev.isTok, Go.Ev.binOp0, Go.Ev.eqAny, h2, h4, Go.Ev.eqFlds, a1, a2, a3, b1, b2, b3, h5]
theorem live10 (m : Mem) : Runs evEnv 10 [] m fun v m' => v = .bool true ∧ m' = m := ⟨1, .bool true, m, rfl, rfl, rfl⟩

theorem encPs_drop : ∀ (us : List (Nat × Nat)) (q : Nat) (u : Nat × Nat), us[q]? = some u → ((encPs us).drop (q * 2)).take 2 = encP u
 | [], q, u, h => by simp at h
 | x :: us, 0, u, h => by simp only [List.getElem?_cons_zero, Option.some.injEq] at h; subst h; rfl
 | x :: us, q + 1, u, h => by
  rw [List.getElem?_cons_succ] at h
  have := encPs_drop us q u h
  rw [show (q + 1) * 2 = (encP x).length + q * 2 by simp [encP]; omega]
  show ((encP x ++ encPs us).drop _).take 2 = _
  rw [← List.drop_drop, List.drop_left]; exact this
attribute [local irreducible] quiet allocs effect wp ret wpO Runs Act.tmp Act.eval fin results Tree.set binOp loadAt storeAt target wanted cellsFrom

theorem num15 (e : Int) (m : Mem) : Runs evEnv 15 [I e] m fun v m' => v = I e ∧ m' = m := by
 refine runs_start rfl rfl rfl rfl ?_
 (repeat (first | (apply G.h; constructor <;> (first | exact Zc | apply gI | ((repeat' (first | exact Y0 | apply Y1 | ((first | apply Y4 | apply Y5); simp only [evs, Nat.reduceEqDiff, reduceIte] <;> rfl))); done) | (apply Y6; (try simp only [evs]); first | rfl)))))
 (refine g_fin (by repeat' first | exact Rs.nil | apply Rs.cons | (apply Y4; simp only [evs, Nat.reduceEqDiff, reduceIte] <;> rfl)) (by (simp only [evs, Nat.reduceEqDiff, reduceIte] <;> first | rfl | (congr 1; omega) | omega)) ?_)
 exact ⟨rfl, by (simp only [evs, Nat.reduceEqDiff, reduceIte] <;> first | rfl | (congr 1; omega) | omega)⟩

theorem Ints.get {m : Mem} {v : Value} {ps : List Nat} (h : Ints m v ps) {i : Nat} (hi : i < ps.length) : ∃ kb cap r, v = .slice (some ⟨kb, 0, none⟩) ps.length cap ∧ Row m kb r 3 0 ∧ r[0 + i * 1]? = some (I (ps[i] : Nat)) := by
 rcases h with ⟨-, h⟩ | ⟨kb, cap, r, e1, e2, e3, e4, e5⟩
 ·rw [h] at hi; simp at hi
 ·refine ⟨kb, cap, r, e1, e2, ?_⟩
  have : (r.take (ps.length * 1))[i]? = some (I (ps[i] : Nat)) := by rw [e5, List.getElem?_map, List.getElem?_eq_getElem hi]; rfl
  rw [List.getElem?_take_of_lt (by omega)] at this
  rw [show 0 + i * 1 = i by omega]; exact this
theorem Ints.form {m : Mem} {v : Value} {ps : List Nat} (h : Ints m v ps) : ∃ a c, v = .slice a ps.length c := by
 rcases h with ⟨h, h2⟩ | ⟨kb, cap, r, e1, e2, e3, e4, e5⟩
 ·exact ⟨none, 0, by rw [h, h2]; rfl⟩
 ·exact ⟨_, _, e1⟩
theorem Nodes.str {m : Mem} {b off : Nat} {l : List Nd} (h : Nodes m b off l) (i : Nat) (hi : i < l.length) : loadAt evEnv m 9 b (off + i * 5 + 2) = some (encS l[i].text) := by
 obtain ⟨n, c, ty, kd, h1, h2, h3⟩ := h
 exact load_cell rfl rfl h1 (by omega) (h3 i 2 hi (by omega))
theorem Nodes.num {m : Mem} {b off : Nat} {l : List Nd} (h : Nodes m b off l) (i : Nat) (hi : i < l.length) : loadAt evEnv m 3 b (off + i * 5 + 3) = some (I l[i].num) := by
 obtain ⟨n, c, ty, kd, h1, h2, h3⟩ := h
 exact load_cell rfl rfl h1 (by omega) (h3 i 3 hi (by omega))
end Go.Proofs.YtihokakelnfdgaaDoor

namespace Go.Proofs.YtihokakelnfdgaaDoor
open Go Go.Ev
set_option maxRecDepth 100000
set_option linter.unusedVariables false
set_option linter.unusedSimpArgs false

theorem Sl.form2 {X : Nat → Prop} {m : Mem} {v : Value} {e sz : Nat} {l : List Value} (h : Sl X m v e sz l) (hsz : 0 < sz) {n : Nat} (hl : l.length = n * sz) : ∃ a c, v = .slice a n c := by
 obtain ⟨a, k, c, rfl, hk⟩ := h.form hsz
 have : k = n := Nat.eq_of_mul_eq_mul_right hsz (by rw [← hk, hl])
 exact ⟨a, c, by rw [this]⟩
theorem Sl.use {X : Nat → Prop} {m : Mem} {v : Value} {us : List (Nat × Nat)} (h : Sl X m v 57 2 (encPs us)) {i : Nat} (hi : i < us.length) : ∃ b c, v = .slice (some ⟨b, 0, none⟩) us.length c ∧ loadAt evEnv m 57 b (0 + i * 2) = some (.agg ⟨[I us[i].1, I us[i].2]⟩) := by
 obtain ⟨b, cap, r, n, z1, z2, z3, z4, z5, z6, z7⟩ := h.at (i := i * 2) (by rw [encPs_len]; omega)
 have hn : n = us.length := by
  have := congrArg List.length z6
  rw [encPs_len, List.length_take] at this
  omega
 subst hn
 refine ⟨b, cap, z1, z3.loadA (k := 2) rfl rfl rfl (by omega) ?_⟩
 have q := encPs_drop us i _ (List.getElem?_eq_getElem hi)
 rw [z6, List.drop_take, List.take_take, Nat.min_eq_left (by omega)] at q
 rw [Nat.zero_add]; exact q
theorem Sl.formP {X : Nat → Prop} {m : Mem} {v : Value} {e sz : Nat} {l : List Value} (h : Sl X m v e sz l) (hsz : 0 < sz) {n : Nat} (hl : l.length = n * sz) : ∃ a c, v = .slice a n c ∧ (a = none ∨ ∃ b, a = some ⟨b, 0, none⟩) := by
 obtain ⟨a, c, rfl⟩ := Sl.form2 h hsz hl
 refine ⟨a, c, rfl, ?_⟩
 rcases h with ⟨h, -⟩ | ⟨b, cap, r, n', h, -⟩
 ·cases h; exact .inl rfl
 ·cases h; exact .inr ⟨b, rfl⟩
theorem Sl.use9 {X : Nat → Prop} {m : Mem} {v : Value} {us : List (Nat × Nat)} (h : Sl X m v 59 2 (encPs us)) {i : Nat} (hi : i < us.length) : ∃ b c, v = .slice (some ⟨b, 0, none⟩) us.length c ∧ loadAt evEnv m 59 b (0 + i * 2) = some (.agg ⟨[I us[i].1, I us[i].2]⟩) := by
 obtain ⟨b, cap, r, n, z1, z2, z3, z4, z5, z6, z7⟩ := h.at (i := i * 2) (by rw [encPs_len]; omega)
 have hn : n = us.length := by
  have := congrArg List.length z6
  rw [encPs_len, List.length_take] at this
  omega
 subst hn
 refine ⟨b, cap, z1, z3.loadA (k := 2) rfl rfl rfl (by omega) ?_⟩
 have q := encPs_drop us i _ (List.getElem?_eq_getElem hi)
 rw [z6, List.drop_take, List.take_take, Nat.min_eq_left (by omega)] at q
 rw [Nat.zero_add]; exact q
theorem Sl.fnl {X : Nat → Prop} {m : Mem} {v : Value} {cvs : List Value} {fs : List Fn} (h : Sl X m v 49 4 (encFns cvs fs)) (hc : cvs.length = fs.length) {i : Nat} (hi : i < fs.length) : ∃ b c, v = .slice (some ⟨b, 0, none⟩) fs.length c ∧ loadAt evEnv m 49 b (0 + i * 4) = some (.agg ⟨[I fs[i].node, I fs[i].params, I fs[i].slots, cvs[i]'(by omega)]⟩) := by
 have hlen := encFns_len cvs fs hc
 obtain ⟨b, cap, r, n, z1, z2, z3, z4, z5, z6, z7⟩ := h.at (i := i * 4) (by omega)
 have hn : n = fs.length := by
  have := congrArg List.length z6
  rw [List.length_take] at this
  omega
 subst hn
 refine ⟨b, cap, z1, z3.loadA (k := 4) rfl rfl rfl (by omega) ?_⟩
 have hg := fun j (hj : j < 4) => encFns_get cvs fs i j _ _ (List.getElem?_eq_getElem (by omega)) (List.getElem?_eq_getElem hi) hj
 apply List.ext_getElem?
 intro j
 rcases Nat.lt_or_ge j 4 with hj | hj
 ·rw [List.getElem?_take_of_lt hj, List.getElem?_drop]
  have := hg j hj
  rw [z6, List.getElem?_take_of_lt (by omega)] at this
  rw [show 0 + i * 4 + j = i * 4 + j by omega, this]; rfl
 ·rw [List.getElem?_eq_none (by rw [List.length_take]; omega), List.getElem?_eq_none (by simp; omega)]
theorem Sl.cap3 {X : Nat → Prop} {m : Mem} {v : Value} {cvs : List Value} {fs : List Fn} (h : Sl X m v 49 4 (encFns cvs fs)) (hc : cvs.length = fs.length) {i : Nat} (hi : i < fs.length) : ∃ b c, v = .slice (some ⟨b, 0, none⟩) fs.length c ∧ loadAt evEnv m 47 b (0 + i * 4 + 3) = some (cvs[i]'(by omega)) := by
 have hlen := encFns_len cvs fs hc
 obtain ⟨b, cap, r, n, z1, z2, z3, z4, z5, z6, z7⟩ := h.at (i := i * 4 + 3) (by omega)
 have hn : n = fs.length := by
  have := congrArg List.length z6
  rw [List.length_take] at this
  omega
 subst hn
 refine ⟨b, cap, z1, z3.load1 rfl rfl ?_⟩
 rw [show 0 + i * 4 + 3 = i * 4 + 3 by omega, z7, encFns_get cvs fs i 3 _ _ (List.getElem?_eq_getElem (by omega)) (List.getElem?_eq_getElem hi) (by omega)]; rfl
theorem _root_.Go.Ev.Sl.held {X : Nat → Prop} {T : List Nat} {m m' : Mem} {v : Value} {e sz : Nat} {l : List Value} (h : Sl X m v e sz l) (k : Keep (fun c => c < m.next) T m m') : Sl X m' v e sz l := by
 rcases h with h | ⟨b, cap, r, n, h1, h2, h3, h4⟩
 ·exact .inl h
 ·exact .inr ⟨b, cap, r, n, h1, h2, h3.stay k (.inl h3.1), h4⟩
theorem walked_inv {l : List Nd} (hp : okProg l = true) (hlen : l.length ≤ 600) (h0 : 0 < l.length) : Inv l 1201 (walked l) := by
 have P := okProg_prg hp
 have hall := (prog_D hp).1
 have hD1 := (D_kids (at_ := 0) h0 (by simpa using hall)).2.2
 have hx : l[0]? = some l[0] := List.getElem?_eq_getElem h0
 have hN := nodeI P hlen (hoisted l) l.length
 have hD1' : D (l.drop (start l).pc) l[0].n.toNat = some (l.length - 1) := hD1
 have hwk : walked l = times (nodeM l (hoisted l) l.length) l[0].n.toNat (start l) := by unfold walked; rw [hx]
 rw [hwk]
 exact (times_inv hN l[0].n.toNat (start l) 1 (l.length - 1) ({ pc := h0, ne := by simp [start], nfr := by simp [start], uses := by simp [start], means := by simp [start], globals := by simp [start], nf := by simp [start], slots := by simp [start], caps := by simp [start], fr := by simp [start], refs := ⟨by simp [start], by simp [start]⟩, own := by simp [start] } : Inv l 1 (start l)) hD1' (by omega)).1.mono (by omega)
end Go.Proofs.YtihokakelnfdgaaDoor

namespace Go.Proofs.YtihokakelnfdgaaDoor
open Go Go.Ev
set_option maxRecDepth 100000
set_option linter.unusedVariables false
set_option linter.unusedSimpArgs false

/-! Nodes in a slice's cells. -/
def nflat (l : List Nd) : List Value := l.flatMap Nd.val
theorem nflat_len : ∀ (l : List Nd), (nflat l).length = l.length * 5
 | [] => rfl
 | x :: l => by
  have := nflat_len l
  unfold nflat at this ⊢
  rw [List.flatMap_cons, List.length_append, this, List.length_cons, show x.val.length = 5 from rfl]; omega
theorem nflat_app (a b : List Nd) : nflat (a ++ b) = nflat a ++ nflat b := by unfold nflat; rw [List.flatMap_append]
theorem nflat_get : ∀ (l : List Nd) (i j : Nat) (hi : i < l.length), j < 5 → (nflat l)[i * 5 + j]? = l[i].val[j]?
 | x :: l, 0, j, hi, hj => by
  unfold nflat
  rw [List.flatMap_cons, List.getElem?_append_left (by rw [show x.val.length = 5 from rfl]; omega)]; simp
 | x :: l, i + 1, j, hi, hj => by
  have := nflat_get l i j (by simpa using hi) hj
  unfold nflat at this ⊢
  rw [List.flatMap_cons, List.getElem?_append_right (by rw [show x.val.length = 5 from rfl]; omega), show x.val.length = 5 from rfl, show (i + 1) * 5 + j - 5 = i * 5 + j by omega, this]; rfl
theorem nflat_set : ∀ (l : List Nd) (i : Nat) (t : Bs) (hi : i < l.length), nflat (l.set i { l[i] with text := t }) = (nflat l).set (i * 5 + 2) (encS t)
 | x :: l, 0, t, hi => rfl
 | x :: l, i + 1, t, hi => by
  have := nflat_set l i t (by simpa using hi)
  unfold nflat at this ⊢
  simp only [List.set_cons_succ, List.getElem_cons_succ, List.flatMap_cons]
  rw [this, List.set_append_right _ _ (by rw [show x.val.length = 5 from rfl]; omega), show x.val.length = 5 from rfl, show (i + 1) * 5 + 2 - 5 = i * 5 + 2 by omega]
theorem cellsFrom_all {c : Tree Value} : ∀ (k o : Nat) (L : List Value), L.length = k → (∀ i, i < k → c.get (o + i) = L[i]?) → cellsFrom c o k = some L
 | 0, o, L, hl, h => by rw [List.length_eq_zero_iff.1 hl]; rfl
 | k + 1, o, [], hl, h => by simp at hl
 | k + 1, o, x :: L, hl, h => by
  have h0 := h 0 (by omega)
  rw [Nat.add_zero, List.getElem?_cons_zero] at h0
  rw [cellsFrom, h0, cellsFrom_all k (o + 1) L (by simpa using hl) fun i hi => by
   have := h (i + 1) (by omega)
   rw [List.getElem?_cons_succ] at this
   rw [← this]; congr 1; omega]
theorem Nodes.cells {m : Mem} {b off : Nat} {l : List Nd} (h : Nodes m b off l) (cap : Nat) : effect.cellsIn m 5 (.slice (some ⟨b, off, none⟩) l.length cap) = some (l.length, nflat l) := by
 obtain ⟨n, c, ty, kd, h1, h2, h3⟩ := h
 have hc : cellsFrom c off (l.length * 5) = some (nflat l) := cellsFrom_all _ _ _ (nflat_len l) fun i hi => by
  have := h3 (i / 5) (i % 5) (by omega) (by omega)
  rw [show off + i / 5 * 5 + i % 5 = off + i by omega] at this
  rw [this, ← nflat_get l (i / 5) (i % 5) (by omega) (by omega)]
  congr 1; omega
 simp only [effect.cellsIn, h1, Nat.ble_eq_true_of_le h2, cond_true, hc]
theorem nflat_one (l : List Nd) : (nflat l).all oneCell = true := by
 unfold nflat
 rw [List.all_flatMap]
 exact List.all_eq_true.2 fun x _ => rfl
theorem sl_nodes {X : Nat → Prop} {m : Mem} {nb n cap : Nat} {l : List Nd} (h : Sl X m (.slice (some ⟨nb, 0, none⟩) n cap) 43 5 (nflat l)) : Nodes m nb 0 l := by
 rcases h with ⟨h, -⟩ | ⟨b, cap', r, n', h1, h2, ⟨h3, c, h4, h5⟩, h6, h7, h8⟩
 ·cases h
 ·cases h1
  have hl := congrArg List.length h8
  rw [nflat_len, List.length_take] at hl
  refine ⟨r.length, c, 43, 0, h4, by omega, fun i j hi hj => ?_⟩
  have := nflat_get l i j hi hj
  rw [h8, List.getElem?_take_of_lt (by omega)] at this
  rw [show 0 + i * 5 + j = i * 5 + j by omega, h5 _ (by omega), this]
theorem n_cat {m : Mem} (x y : List UInt8) (h : x.length + y.length ≤ 4611686018427387904) : Bn evEnv m .add 9 (.string ⟨⟨x⟩⟩) (.string ⟨⟨y⟩⟩) (.string ⟨⟨x ++ y⟩⟩) := by
 refine .mk ?_
 have h5 : evEnv.under 9 = some .string := by rfl
 simp [Go.Ev.binOp, Go.Ev.isTok, Go.Ev.binOp0, h5, Go.Ev.strOp, Nat.ble_eq_true_of_le h]
end Go.Proofs.YtihokakelnfdgaaDoor
