/- Part of a verified evaluator of the model's programs and of runs by it: SLA0 SO1. -/
import Derived.Test.YtihokakelnfdgaaDoorSM
import Derived.Test.YtihokakelnfdgaaDoorEvV
import Derived.ChangeSlices
import Derived.OpenShut
namespace Go.Proofs.YtihokakelnfdgaaDoor
open Go Go.Ev
set_option maxRecDepth 100000
set_option linter.unusedVariables false
set_option linter.unusedSimpArgs false
set_option pp.maxSteps 1500

theorem n_useNe {m : Mem} (a b : Int) : Bn evEnv m .neq 57 (.agg ⟨[I a, I b]⟩) (.agg ⟨[I a, I b]⟩) (.bool false) := by
 refine .mk ?_
 obtain ⟨f0, f1, h2, a1, a2, a3, b1, b2, b3⟩ : ∃ f0 f1 : Field, evEnv.under 57 = some (.struct #[f0, f1]) ∧ f0.offset = 0 ∧ f0.type = 3 ∧ f0.name = "Where" ∧ f1.offset = 1 ∧ f1.type = 3 ∧ f1.name = "N" := ⟨_, _, rfl, rfl, rfl, rfl, rfl, rfl, rfl⟩
 have h4 : evEnv.eqs.any (Nat.beq 57) = true := by rfl
 have h5 : evEnv.under 3 = some (.int .i64) := by rfl
 simp [Go.Ev.binOp, Go.Ev.isTok, Go.Ev.binOp0, Go.Ev.eqAny, h2, h4, Go.Ev.eqFlds, a1, a2, a3, b1, b2, b3, h5]
theorem live10 (m : Mem) : Runs evEnv 10 [] m fun v m' => v = .bool true ∧ m' = m := ⟨1, .bool true, m, rfl, rfl, rfl⟩

theorem encPs_drop : ∀ (us : List (Nat × Nat)) (q : Nat) (u : Nat × Nat), us[q]? = some u → ((encPs us).drop (q * 2)).take 2 = encP u
 | [], q, u, h => by simp at h
 | x :: us, 0, u, h => by simp only [List.getElem?_cons_zero, Option.some.injEq] at h; subst h; rfl
 | x :: us, q + 1, u, h => by
  rw [List.getElem?_cons_succ] at h
  have := encPs_drop us q u h
  rw [show (q + 1) * 2 = (encP x).length + q * 2 by simp [encP]; omega]
  show ((encP x ++ encPs us).drop _).take 2 = _
  rw [← List.drop_drop, List.drop_left]; exact this
attribute [local irreducible] quiet allocs effect wp ret wpO Runs Act.tmp Act.eval fin results Tree.set binOp loadAt storeAt target wanted cellsFrom

theorem num15 (e : Int) (m : Mem) : Runs evEnv 15 [I e] m fun v m' => v = I e ∧ m' = m := by
 refine runs_start rfl rfl rfl rfl ?_
 (repeat (first | (apply G.h; constructor <;> (first | exact Zc | apply gI | ((repeat' (first | exact Y0 | apply Y1 | ((first | apply Y4 | apply Y5); simp only [evs, Nat.reduceEqDiff, reduceIte] <;> rfl))); done) | (apply Y6; (try simp only [evs]); first | rfl)))))
 (refine g_fin (by repeat' first | exact Rs.nil | apply Rs.cons | (apply Y4; simp only [evs, Nat.reduceEqDiff, reduceIte] <;> rfl)) (by (simp only [evs, Nat.reduceEqDiff, reduceIte] <;> first | rfl | (congr 1; omega) | omega)) ?_)
 exact ⟨rfl, by (simp only [evs, Nat.reduceEqDiff, reduceIte] <;> first | rfl | (congr 1; omega) | omega)⟩

theorem Ints.get {m : Mem} {v : Value} {ps : List Nat} (h : Ints m v ps) {i : Nat} (hi : i < ps.length) : ∃ kb cap r, v = .slice (some ⟨kb, 0, none⟩) ps.length cap ∧ Row m kb r 3 0 ∧ r[0 + i * 1]? = some (I (ps[i] : Nat)) := by
 rcases h with ⟨-, h⟩ | ⟨kb, cap, r, e1, e2, e3, e4, e5⟩
 ·rw [h] at hi; simp at hi
 ·refine ⟨kb, cap, r, e1, e2, ?_⟩
  have : (r.take (ps.length * 1))[i]? = some (I (ps[i] : Nat)) := by rw [e5, List.getElem?_map, List.getElem?_eq_getElem hi]; rfl
  rw [List.getElem?_take_of_lt (by omega)] at this
  rw [show 0 + i * 1 = i by omega]; exact this
theorem Ints.form {m : Mem} {v : Value} {ps : List Nat} (h : Ints m v ps) : ∃ a c, v = .slice a ps.length c := by
 rcases h with ⟨h, h2⟩ | ⟨kb, cap, r, e1, e2, e3, e4, e5⟩
 ·exact ⟨none, 0, by rw [h, h2]; rfl⟩
 ·exact ⟨_, _, e1⟩
theorem Nodes.str {m : Mem} {b off : Nat} {l : List Nd} (h : Nodes m b off l) (i : Nat) (hi : i < l.length) : loadAt evEnv m 9 b (off + i * 5 + 2) = some (encS l[i].text) := by
 obtain ⟨n, c, ty, kd, h1, h2, h3⟩ := h
 exact load_cell rfl rfl h1 (by omega) (h3 i 2 hi (by omega))
theorem Nodes.num {m : Mem} {b off : Nat} {l : List Nd} (h : Nodes m b off l) (i : Nat) (hi : i < l.length) : loadAt evEnv m 3 b (off + i * 5 + 3) = some (I l[i].num) := by
 obtain ⟨n, c, ty, kd, h1, h2, h3⟩ := h
 exact load_cell rfl rfl h1 (by omega) (h3 i 3 hi (by omega))
end Go.Proofs.YtihokakelnfdgaaDoor

namespace Go.Proofs.YtihokakelnfdgaaDoor
set_option linter.unusedSimpArgs false
open Go Go.Ev Go.ChangeShapes Go.WideShapes
set_option linter.unusedVariables false
set_option maxRecDepth 100000

theorem val_len (x : Nd) : x.val.length = 5 := rfl
theorem vals_get : ∀ (l : List Nd) (i j : Nat) (hi : i < l.length), j < 5 → (l.flatMap Nd.val)[i * 5 + j]? = l[i].val[j]?
 | x :: l, 0, j, hi, hj => by rw [List.flatMap_cons, List.getElem?_append_left (by rw [val_len]; omega)]; simp
 | x :: l, i + 1, j, hi, hj => by
  rw [List.flatMap_cons, List.getElem?_append_right (by rw [val_len]; omega), val_len, show (i + 1) * 5 + j - 5 = i * 5 + j by omega]
  simpa using vals_get l i j (by simpa using hi) hj
theorem vals_len : ∀ (l : List Nd), (l.flatMap Nd.val).length = l.length * 5
 | [] => rfl
 | x :: l => by rw [List.flatMap_cons, List.length_append, val_len, vals_len l, List.length_cons]; omega
theorem vals_plain : ∀ (l : List Nd), (l.flatMap Nd.val).all Ev.plainCell = true
 | [] => rfl
 | x :: l => by rw [List.flatMap_cons, List.all_append, vals_plain l]; rfl

theorem argMemG_nodes (gs : List (Option (Nat × TypeId × List Value))) (off : Nat) (l : List Nd) (e : TypeId) : Nodes (argMemG gs off (l.flatMap Nd.val) e) gs.length off l := by
 refine ⟨_, _, e, 1, argMemG_get _ _ _ _, by rw [vals_len]; exact Nat.le_refl _, fun i j hi hj => ?_⟩
 have := vals_len l
 rw [get_ofList, if_pos (by omega), show off + i * 5 + j - off = i * 5 + j by omega, vals_get l i j hi hj]

section
variable {H : Type} {enc : TypeId × Value → H} {w : World} {base : Nat} {spare : Nat → Bool} {held : Bool}

theorem one_int {fuel : Nat} {cs : List Value} {j : Nat} {y : DataW H × List MemPlace} (hj : j < cs.length) (h : DataW.trod enc Tryd.prog w base spare held fuel 3 ((cs.drop j).take 1) = some y) : ∃ n : Int, cs[j]? = some (.int .i64 n) ∧ -9223372036854775808 ≤ n ∧ n ≤ 9223372036854775807 := by
 obtain ⟨n, h1, h2, h3⟩ := DataW.trod_int Tryd.underlying3 h
 have e := congrArg (·[0]?) h1
 simp only [List.getElem?_take, List.getElem?_drop] at e
 simp only [Lit.wf, Bool.and_eq_true, decide_eq_true_eq, IntKind.min, IntKind.max, IntKind.signed, IntKind.bits, if_true] at h3
 exact ⟨n, by simpa using e, by omega, by omega⟩
theorem one_str {fuel : Nat} {cs : List Value} {j : Nat} {y : DataW H × List MemPlace} (hj : j < cs.length) (h : DataW.trod enc Tryd.prog w base spare held fuel 9 ((cs.drop j).take 1) = some y) : ∃ s : List UInt8, cs[j]? = some (.string ⟨⟨s⟩⟩) ∧ s.length ≤ 9223372036854775807 ∧ y.1 = .lit (.string s) := by
 obtain ⟨s, h1, h2, h3⟩ := DataW.trod_string Tryd.underlying9 h
 have e := congrArg (·[0]?) h1
 simp only [List.getElem?_take, List.getElem?_drop] at e
 obtain ⟨⟨s⟩⟩ := s
 refine ⟨s, by simpa using e, ?_, by rw [h2]⟩
 have : s.length ≤ maxLen := h3
 unfold maxLen at this
 omega
theorem weights_all {e : TypeId} {q : Nat} {d : DataW H} (hq : q ∈ d.weights Tryd.prog e) : ∀ {L : List (DataW H)}, d ∈ L → q ∈ DataW.weightsAll Tryd.prog e L
 | a :: L, h => by
  rw [DataW.weightsAll, List.mem_append]
  rcases List.mem_cons.1 h with rfl | h
  ·exact .inl hq
  ·exact .inr (weights_all hq h)

theorem w43 {xs : List (DataW H × List MemPlace)} {s : List UInt8} (h5 : xs.length = 5) (h : (xs[2]'(by omega)).1 = .lit (.string s)) : s.length ∈ (DataW.agg (xs.map (·.1))).weights Tryd.prog 43 := by
 rw [DataW.weights, Tryd.underlying43]
 match xs, h5, h with
 | [a0, a1, a2, a3, a4], _, h =>
  have h : a2.1 = .lit (.string s) := h
  simp [DataW.weightsEach, h, DataW.weights]

theorem one_node {fuel : Nat} {cs : List Value} {y : DataW H × List MemPlace} (h : DataW.trod enc Tryd.prog w base spare held fuel 43 cs = some y) : ∃ x : Nd, cs = x.val ∧ x.ok ∧ x.text.length ≤ 9223372036854775807 ∧ x.text.length ∈ y.1.weights Tryd.prog 43 := by
 obtain ⟨xs, n, rfl, rfl, hlen, hxl, hel⟩ := DataW.trod_struct Tryd.underlying43 h
 have c3 : Tryd.prog.cellsOf 3 = 1 := by kernel_rfl
 have c9 : Tryd.prog.cellsOf 9 = 1 := by kernel_rfl
 have c43 : Tryd.prog.cellsOf 43 = 5 := by kernel_rfl
 rw [c43] at hlen
 have hxl5 : xs.length = 5 := hxl
 have get : ∀ j (hj : j < 5), xs[j]? = some xs[j] := fun j hj => List.getElem?_eq_getElem (by omega)
 have h0 : DataW.trod enc Tryd.prog w base spare held n 3 ((cs.drop 0).take (Tryd.prog.cellsOf 3)) = xs[0]? := hel 0 _ rfl
 rw [c3] at h0
 have h1 : DataW.trod enc Tryd.prog w base spare held n 3 ((cs.drop 1).take (Tryd.prog.cellsOf 3)) = xs[1]? := hel 1 _ rfl
 rw [c3] at h1
 have h2 : DataW.trod enc Tryd.prog w base spare held n 9 ((cs.drop 2).take (Tryd.prog.cellsOf 9)) = xs[2]? := hel 2 _ rfl
 rw [c9] at h2
 have h3 : DataW.trod enc Tryd.prog w base spare held n 3 ((cs.drop 3).take (Tryd.prog.cellsOf 3)) = xs[3]? := hel 3 _ rfl
 rw [c3] at h3
 have h4 : DataW.trod enc Tryd.prog w base spare held n 3 ((cs.drop 4).take (Tryd.prog.cellsOf 3)) = xs[4]? := hel 4 _ rfl
 rw [c3] at h4
 rw [get 0 (by omega)] at h0
 rw [get 1 (by omega)] at h1
 rw [get 2 (by omega)] at h2
 rw [get 3 (by omega)] at h3
 rw [get 4 (by omega)] at h4
 obtain ⟨kind, e0, b0, b0'⟩ := one_int (j := 0) (by omega) h0
 obtain ⟨nn, e1, b1, b1'⟩ := one_int (j := 1) (by omega) h1
 obtain ⟨s, e2, b2, w2⟩ := one_str (j := 2) (by omega) h2
 obtain ⟨num, e3, b3, b3'⟩ := one_int (j := 3) (by omega) h3
 obtain ⟨pos, e4, b4, b4'⟩ := one_int (j := 4) (by omega) h4
 refine ⟨⟨kind, nn, s, num, pos⟩, ?_, ⟨⟨b0, b0'⟩, ⟨b1, b1'⟩, ⟨b3, b3'⟩, ⟨b4, b4'⟩⟩, b2, ?_⟩
 rotate_left
 ·exact w43 hxl5 w2
 apply List.ext_getElem?
 intro i
 rcases i with _ | _ | _ | _ | _ | i
 ·exact e0
 ·exact e1
 ·exact e2
 ·exact e3
 ·exact e4
 ·rw [List.getElem?_eq_none (by omega), List.getElem?_eq_none (by show 5 ≤ i + 1 + 1 + 1 + 1 + 1; omega)]

/-- an argument that is a slice of nodes. -/
theorem open_nodes {fuel : Nat} {cs : List Value} {y : DataW H × List MemPlace} (h : DataW.trod enc Tryd.prog w base spare held fuel 24 cs = some y) :
  (∃ a cap, cs = [.slice a 0 cap]) ∨ ∃ (b off cap : Nat) (l : List Nd) (c : Array Value) (e : TypeId) (fr : Nat × Nat), cs = [.slice (some ⟨b, off, none⟩) l.length cap] ∧ l ≠ [] ∧ (∀ x ∈ l, x.ok ∧ x.text.length ≤ 9223372036854775807 ∧ x.text.length ∈ y.1.weights Tryd.prog 24) ∧
   w.heap[b]? = some (.cells c e fr) ∧ off + (l.flatMap Nd.val).length ≤ c.size ∧ ∀ i, i < (l.flatMap Nd.val).length → c[off + i]? = (l.flatMap Nd.val)[i]? := by
 letI : Sym := ⟨fun _ => none⟩
 rcases DataW.trod_slice Tryd.underlying24 h with ⟨rfl, _⟩ | ⟨a, len, cap, elems, rest, n, rfl, rfl, rfl, hb, hl, hm, hlen, hel, _, _⟩
 ·exact .inl ⟨none, 0, rfl⟩
 rcases Nat.eq_zero_or_pos len with rfl | hpos
 ·exact .inl ⟨some a, cap, rfl⟩
 right
 have c43 : Tryd.prog.cellsOf 43 = 5 := by kernel_rfl
 rw [c43] at hel
 have each : ∀ i : Fin len, ∃ x : Nd, w.cells? base (a.add (i.1 * 5)) 5 = some x.val ∧ x.ok ∧ x.text.length ≤ 9223372036854775807 ∧ x.text.length ∈ DataW.weights Tryd.prog 24 (.slice (elems.map (·.1)) (rest.map (·.1))) := by
  intro i
  have h1 := hel i.1 i.2
  rw [List.getElem?_eq_getElem (by omega), Option.bind_eq_some_iff] at h1
  obtain ⟨cs', h2, h3⟩ := h1
  obtain ⟨x, rfl, hx, hx2, hx3⟩ := one_node h3
  refine ⟨x, h2, hx, hx2, ?_⟩
  rw [DataW.weights, Tryd.underlying24]
  exact List.mem_cons_of_mem _ (List.mem_append_left _ (weights_all hx3 (List.mem_map_of_mem (List.getElem_mem _))))
 let l : List Nd := List.ofFn fun i : Fin len => Classical.choose (each i)
 have hll : l.length = len := List.length_ofFn
 have hli : ∀ i (hi : i < l.length), w.cells? base (a.add (i * 5)) 5 = some l[i].val ∧ l[i].ok ∧ l[i].text.length ≤ 9223372036854775807 ∧ l[i].text.length ∈ DataW.weights Tryd.prog 24 (.slice (elems.map (·.1)) (rest.map (·.1))) := by
  intro i hi
  have := Classical.choose_spec (each ⟨i, by omega⟩)
  rw [show l[i] = Classical.choose (each ⟨i, by omega⟩) from by simp [l]]
  exact this
 have cell : ∀ i j (hi : i < l.length), j < 5 → w.cell? ((a.add (i * 5)).add j) = l[i].val[j]? := by
  intro i j hi hj
  have h1 := (hli i hi).1
  unfold World.cells? at h1
  split at h1
  ·exact mapM_some_get h1 j j (by simp [hj])
  ·cases h1
 obtain ⟨b, off, sp⟩ := a
 have hsp : sp = none := by
  have h1 := cell 0 0 (by omega) (by omega)
  have e : ((⟨b, off, sp⟩ : Addr).add (0 * 5)).add 0 = ⟨b, off, sp⟩ := by simp [Addr.add]
  have h2 : w.cell? ⟨b, off, sp⟩ = some (.int .i64 (l[0]'(by omega)).kind) := by rw [← e]; exact h1
  cases sp with
  | none => rfl
  | some s =>
   exfalso
   unfold World.cell? at h2
   split at h2
   ·simp at h2
   ·cases h2
 subst hsp
 have cell2 : ∀ i j (hi : i < l.length), j < 5 → w.cell? ⟨b, off + (i * 5 + j), none⟩ = l[i].val[j]? := by
  intro i j hi hj
  rw [← cell i j hi hj, add_at, add_at, Nat.add_assoc]
 have h00 := cell2 0 0 (by omega) (by omega)
 have hcell : ∃ c e fr, w.heap[b]? = some (.cells c e fr) := by
  have h01 : w.cell? ⟨b, off + (0 * 5 + 0), none⟩ = some (.int .i64 (l[0]'(by omega)).kind) := h00
  unfold World.cell? at h01
  split at h01
  ·rename_i c e fr hh
   exact ⟨c, e, fr, hh⟩
  ·cases h01
 obtain ⟨c, e, fr, hh⟩ := hcell
 have hall : ∀ i, i < (l.flatMap Nd.val).length → c[off + i]? = (l.flatMap Nd.val)[i]? := by
  intro i hi
  rw [vals_len] at hi
  have := cell2 (i / 5) (i % 5) (by omega) (Nat.mod_lt _ (by decide))
  rw [cell_at hh] at this
  rw [show off + i = off + (i / 5 * 5 + i % 5) by omega, this, ← vals_get l (i / 5) (i % 5) (by omega) (Nat.mod_lt _ (by decide)), show i / 5 * 5 + i % 5 = i by omega]
 refine ⟨b, off, cap, l, c, e, fr, by rw [hll], by intro h; rw [h] at hll; simp at hll; omega, fun x hx => ?_, hh, ?_, hall⟩
 ·obtain ⟨i, hi, rfl⟩ := List.getElem_of_mem hx
  exact (hli i hi).2
 ·have hL := vals_len l
  have hlast := hall (l.length * 5 - 1) (by omega)
  rw [List.getElem?_eq_getElem (by omega)] at hlast
  have := (Array.getElem?_eq_some_iff.1 hlast).1
  omega
end
end Go.Proofs.YtihokakelnfdgaaDoor
