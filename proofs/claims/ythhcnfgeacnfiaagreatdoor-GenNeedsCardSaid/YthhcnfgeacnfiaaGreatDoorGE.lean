/- Part of a verified evaluator of the model's programs and of runs by it: GC0 GC GD0 GD1. -/
import Derived.Test.YthhcnfgeacnfiaaGreatDoorGB
import Derived.Test.YthhcnfgeacnfiaaGreatDoorGD
import Derived.Test.YthhcnfgeacnfiaaGreatDoorEvU
namespace Go.Proofs.YthhcnfgeacnfiaaGreatDoor
open Go Go.Ev
set_option linter.unusedVariables false

def okR (x : Nd) : Bool := countB x && fieldsB x

/-- what waits for so many, and what each must be. -/
structure Du where
  n : Int
  pl : Nat → Nat
def Nd.du (x : Nd) : Du := ⟨x.n, placeR x⟩

/-- nodes that have all that they are made of are done. -/
def pop : List (Du × Nat) → List (Du × Nat)
  | [] => []
  | (x, c) :: st => if (c : Int) = x.n then pop st else (x, c) :: st

/-- is the rest just what those that wait are made of? -/
def accept : List Nd → List (Du × Nat) → Bool
  | [], st => (pop st).isEmpty
  | x :: r, st => match pop st with
    | [] => false
    | (y, c) :: st' => mayB x.kind (y.pl c) && (okR x && accept r ((x.du, 0) :: (y, c + 1) :: st'))

theorem accept_pop (r : List Nd) (x : Du) (c : Nat) (st : List (Du × Nat)) (h : (c : Int) = x.n) : accept r ((x, c) :: st) = accept r st := by
  cases r <;> simp only [accept, pop, h, if_true]
theorem pop_not (x : Du) (c : Nat) (st : List (Du × Nat)) (h : (c : Int) < x.n) : pop ((x, c) :: st) = (x, c) :: st := by
  simp only [pop, if_neg (show ¬ (c : Int) = x.n by omega)]
theorem accept_nil (x : Du) (c : Nat) (st : List (Du × Nat)) (h : (c : Int) < x.n) : accept [] ((x, c) :: st) = false := by
  simp only [accept, pop_not x c st h]; rfl
theorem accept_cons (x : Nd) (y : Du) (r : List Nd) (c : Nat) (st : List (Du × Nat)) (h : (c : Int) < y.n) :
    accept (x :: r) ((y, c) :: st) = (mayB x.kind (y.pl c) && (okR x && accept r ((x.du, 0) :: (y, c + 1) :: st))) := by
  simp only [accept, pop_not y c st h]

def root : Du := ⟨1, fun _ => 0⟩
/-- is it a program? -/
def okProg (l : List Nd) : Bool := accept l [(root, 0)]

theorem may_range {kind : Int} {p : Nat} (h : mayB kind p = true) : 1 ≤ kind ∧ kind ≤ 32 := by
  unfold mayB at h
  (repeat' split at h) <;> have := of_decide_eq_true h <;> omega
theorem count_pos {x : Nd} (h : countB x = true) : 0 ≤ x.n := by
  unfold countB at h
  (repeat' split at h) <;> have := of_decide_eq_true h <;> omega
theorem placeR_le {x : Nd} (h : countB x = true) (i : Nat) (hi : (i : Int) < x.n) : placeR x i ≤ 7 := by
  unfold placeR
  by_cases h5 : x.kind = 5
  · have : x.n = 2 ∨ x.n = 3 := by
      have h2 : countB x = decide (x.n = 2 ∨ x.n = 3) := by simp [countB, h5]
      rw [h2] at h
      exact of_decide_eq_true h
    (repeat' split) <;> omega
  · (repeat' split) <;> omega

theorem Nodes.grow {m m' : Mem} {b off : Nat} {l : List Nd} (h : Nodes m b off l) (hb : b < m.next) (g : Grow m m') : Nodes m' b off l := by
  obtain ⟨n, c, ty, kd, h1, h2, h3⟩ := h
  exact ⟨n, c, ty, kd, by rw [g.2 b hb]; exact h1, h2, h3⟩
theorem Nodes.all {m : Mem} {b off : Nat} {l : List Nd} (h : Nodes m b off l) (i : Nat) (hi : i < l.length) : loadAt evEnv m 58 b (off + i * 5) = some (.agg ⟨l[i].val⟩) := by
  obtain ⟨n, c, ty, kd, h1, h2, h3⟩ := h
  refine load_agg (k := 5) rfl rfl rfl h1 (by omega) ?_
  have e0 := h3 i 0 hi (by omega)
  have e1 := h3 i 1 hi (by omega)
  have e2 := h3 i 2 hi (by omega)
  have e3 := h3 i 3 hi (by omega)
  have e4 := h3 i 4 hi (by omega)
  simp only [Nat.add_zero] at e0
  simp only [cellsFrom, e0, show off + i * 5 + 1 + 1 = off + i * 5 + 2 from rfl, show off + i * 5 + 2 + 1 = off + i * 5 + 3 from rfl, show off + i * 5 + 3 + 1 = off + i * 5 + 4 from rfl, e1, e2, e3, e4]
  rfl
end Go.Proofs.YthhcnfgeacnfiaaGreatDoor

namespace Go.Proofs.YthhcnfgeacnfiaaGreatDoor
open Go Go.Ev
set_option maxRecDepth 100000
set_option linter.unusedVariables false
set_option linter.unusedSimpArgs false
set_option pp.maxSteps 1500
attribute [local irreducible] quiet allocs effect wp ret wpO Runs Act.tmp Act.eval fin results Tree.set binOp loadAt storeAt target wanted cellsFrom

def zeroNode : List Value := [.int .i64 0, .int .i64 0, .string ⟨⟨[]⟩⟩, .int .i64 0, .int .i64 0]

/-- what check answers of the node at a place that must be such. -/
def Checked (l : List Nd) (at_ must : Nat) (m : Mem) (v : Value) (m' : Mem) : Prop :=
  Grow m m' ∧ ∃ p e : Nat, v = .tuple ⟨[.int .i64 p, .int .i64 e]⟩ ∧ p ≤ l.length ∧ (e = 0 → at_ < p) ∧
    ∀ (y : Du) (c : Nat) (st : List (Du × Nat)), (c : Int) < y.n → y.pl c = must →
      (e = 0 → accept (l.drop at_) ((y, c) :: st) = accept (l.drop p) ((y, c + 1) :: st)) ∧ (e ≠ 0 → accept (l.drop at_) ((y, c) :: st) = false)

set_option maxHeartbeats 4000000 in
theorem check33 (b off cap : Nat) (l : List Nd) (hok : ∀ x ∈ l, x.ok ∧ x.text.length ≤ 9223372036854775807) (hl : l.length ≤ 100000) :
    ∀ (d at_ must : Nat) (m : Mem), l.length - at_ ≤ d → at_ ≤ l.length → must ≤ 7 → Nodes m b off l → b < m.next →
      Runs evEnv 33 [.slice (some ⟨b, off, none⟩) l.length cap, .int .i64 at_, .int .i64 must] m (Checked l at_ must m) := by
  intro d
  induction d with
  | zero =>
    intro at_ must m hd hat hmust hN hbn
    refine runs_start rfl rfl rfl rfl ?_
    (repeat (first | apply ewp_seq | apply eret_seq | apply ewp_skip | apply ewp_region | apply ewpO_nil | apply ewp_block | apply eret_block | apply ewp_exit | apply eret_seq_exit | apply eret_loop_exit | apply ewp_ret | apply eret_seq_ret | apply eret_block_ret | apply eret_loop_ret | apply ewp_label | apply g_T | apply g_F | ((first | apply g_cond | apply g_block | apply g_regionD | apply g_guard | apply g_guard0 | apply g_move | apply g_assign | apply g_load | apply g_bin | apply g_un | apply g_pick | apply g_nil | apply g_nil0 | apply g_fieldAddr | apply g_indexAddr | apply g_indexS | apply g_field | apply g_len | apply g_max | apply g_min | apply g_extract | apply g_sliceHi | apply g_build | apply g_box | apply g_new | apply g_buildSlice | apply g_makeMap | fail) <;> (first | exact Rf.mk | (apply Ev.mk; (simp only [evs, Nat.reduceEqDiff, reduceIte] <;> rfl)) | (apply Dn.mk; (simp only [evs, Nat.reduceEqDiff, reduceIte] <;> rfl)) | apply g_wpO | (apply Cp.bin; (focus constructor); first | with_reducible exact Dc.r | with_reducible exact Dc.s | (apply Dc.t; first | with_reducible assumption | omega | fail) | (apply Dc.f; first | with_reducible assumption | omega | fail) | fail) | (apply n_add; (focus (first | (with_reducible (first | exact nadd1 _ | exact nadd2 _ | exact nadd3 _ | exact nladd1 _ | exact nladd2 _ | exact nladd3 _ | exact nadd _ _ | fail)) | rfl | fail)); omega) | (apply n_sub; (focus (first | (with_reducible first | exact nsub1 _ (by omega) | exact nsub _ _ (by omega) | fail) | rfl | fail)); omega) | ((first | apply n_peq | apply n_pne | fail); exact Rf.mk; exact Rf.mk) | (apply Ld.mk; (try simp only [evs]); first | rfl | fail) | apply g_wp | apply g_ret | apply g_sel | (apply Om.mk; omega) | ((repeat (first | exact Evp.nil | (apply Evp.cons; (focus (apply Ev.mk; (simp only [evs, Nat.reduceEqDiff, reduceIte] <;> rfl))))));done) | (apply Hy.mk; assumption) | (apply Kr.mk; kernel_rfl) | fail)) | fail))
    (refine g_fin (by repeat (first | exact Rs.nil | (apply Rs.cons; (focus (apply Ev.mk; (simp only [evs, Nat.reduceEqDiff, reduceIte] <;> rfl)))))) (by (simp only [evs, Nat.reduceEqDiff, reduceIte] <;> first | rfl | (congr 1; omega) | omega)) ?_)
    refine ⟨by simp only [evs]; exact Grow.refl m, at_, 6, rfl, hat, fun h => absurd h (by decide), fun y c st hc hp => ⟨fun h => absurd h (by decide), fun _ => ?_⟩⟩
    rw [List.drop_of_length_le (by omega)]
    exact accept_nil y c st hc
  | succ d ihd =>
    intro at_ must m hd hat hmust hN hbn
    rcases Nat.lt_or_ge at_ l.length with hlt | hge
    rotate_left
    · refine runs_start rfl rfl rfl rfl ?_
      (repeat (first | apply ewp_seq | apply eret_seq | apply ewp_skip | apply ewp_region | apply ewpO_nil | apply ewp_block | apply eret_block | apply ewp_exit | apply eret_seq_exit | apply eret_loop_exit | apply ewp_ret | apply eret_seq_ret | apply eret_block_ret | apply eret_loop_ret | apply ewp_label | apply g_T | apply g_F | ((first | apply g_cond | apply g_block | apply g_regionD | apply g_guard | apply g_guard0 | apply g_move | apply g_assign | apply g_load | apply g_bin | apply g_un | apply g_pick | apply g_nil | apply g_nil0 | apply g_fieldAddr | apply g_indexAddr | apply g_indexS | apply g_field | apply g_len | apply g_max | apply g_min | apply g_extract | apply g_sliceHi | apply g_build | apply g_box | apply g_new | apply g_buildSlice | apply g_makeMap | fail) <;> (first | exact Rf.mk | (apply Ev.mk; (simp only [evs, Nat.reduceEqDiff, reduceIte] <;> rfl)) | (apply Dn.mk; (simp only [evs, Nat.reduceEqDiff, reduceIte] <;> rfl)) | apply g_wpO | (apply Cp.bin; (focus constructor); first | with_reducible exact Dc.r | with_reducible exact Dc.s | (apply Dc.t; first | with_reducible assumption | omega | fail) | (apply Dc.f; first | with_reducible assumption | omega | fail) | fail) | (apply n_add; (focus (first | (with_reducible (first | exact nadd1 _ | exact nadd2 _ | exact nadd3 _ | exact nladd1 _ | exact nladd2 _ | exact nladd3 _ | exact nadd _ _ | fail)) | rfl | fail)); omega) | (apply n_sub; (focus (first | (with_reducible first | exact nsub1 _ (by omega) | exact nsub _ _ (by omega) | fail) | rfl | fail)); omega) | ((first | apply n_peq | apply n_pne | fail); exact Rf.mk; exact Rf.mk) | (apply Ld.mk; (try simp only [evs]); first | rfl | fail) | apply g_wp | apply g_ret | apply g_sel | (apply Om.mk; omega) | ((repeat (first | exact Evp.nil | (apply Evp.cons; (focus (apply Ev.mk; (simp only [evs, Nat.reduceEqDiff, reduceIte] <;> rfl))))));done) | (apply Hy.mk; assumption) | (apply Kr.mk; kernel_rfl) | fail)) | fail))
      (refine g_fin (by repeat (first | exact Rs.nil | (apply Rs.cons; (focus (apply Ev.mk; (simp only [evs, Nat.reduceEqDiff, reduceIte] <;> rfl)))))) (by (simp only [evs, Nat.reduceEqDiff, reduceIte] <;> first | rfl | (congr 1; omega) | omega)) ?_)
      refine ⟨by simp only [evs]; exact Grow.refl m, at_, 6, rfl, hat, fun h => absurd h (by decide), fun y c st hc hp => ⟨fun h => absurd h (by decide), fun _ => ?_⟩⟩
      rw [List.drop_of_length_le (by omega)]
      exact accept_nil y c st hc
    have hx := hN.all at_ hlt
    have hxok := hok l[at_] (List.getElem_mem hlt)
    have hdrop : l.drop at_ = l[at_] :: l.drop (at_ + 1) := List.drop_eq_getElem_cons hlt
    generalize l[at_] = x at hx hxok hdrop
    obtain ⟨hxo, hxt⟩ := hxok
    have hacc : ∀ (y : Du) (c : Nat) (st : List (Du × Nat)), (c : Int) < y.n → y.pl c = must → accept (l.drop at_) ((y, c) :: st) = (mayB x.kind must && (okR x && accept (l.drop (at_ + 1)) ((x.du, 0) :: (y, c + 1) :: st))) := by
      intro y c st hc hp
      rw [hdrop, accept_cons _ _ _ _ _ hc, hp]
    refine runs_start rfl rfl rfl rfl ?_
    (repeat (first | apply ewp_seq | apply eret_seq | apply ewp_skip | apply ewp_region | apply ewpO_nil | apply ewp_block | apply eret_block | apply ewp_exit | apply eret_seq_exit | apply eret_loop_exit | apply ewp_ret | apply eret_seq_ret | apply eret_block_ret | apply eret_loop_ret | apply ewp_label | apply g_T | apply g_F | ((first | apply g_cond | apply g_block | apply g_regionD | apply g_guard | apply g_guard0 | apply g_move | apply g_assign | apply g_load | apply g_bin | apply g_un | apply g_pick | apply g_nil | apply g_nil0 | apply g_fieldAddr | apply g_indexAddr | apply g_indexS | apply g_field | apply g_len | apply g_max | apply g_min | apply g_extract | apply g_sliceHi | apply g_build | apply g_box | apply g_new | apply g_buildSlice | apply g_makeMap | fail) <;> (first | exact Rf.mk | (apply Ev.mk; (simp only [evs, Nat.reduceEqDiff, reduceIte] <;> rfl)) | (apply Dn.mk; (simp only [evs, Nat.reduceEqDiff, reduceIte] <;> rfl)) | apply g_wpO | (apply Cp.bin; (focus constructor); first | with_reducible exact Dc.r | with_reducible exact Dc.s | (apply Dc.t; first | with_reducible assumption | omega | fail) | (apply Dc.f; first | with_reducible assumption | omega | fail) | fail) | (apply n_add; (focus (first | (with_reducible (first | exact nadd1 _ | exact nadd2 _ | exact nadd3 _ | exact nladd1 _ | exact nladd2 _ | exact nladd3 _ | exact nadd _ _ | fail)) | rfl | fail)); omega) | (apply n_sub; (focus (first | (with_reducible first | exact nsub1 _ (by omega) | exact nsub _ _ (by omega) | fail) | rfl | fail)); omega) | ((first | apply n_peq | apply n_pne | fail); exact Rf.mk; exact Rf.mk) | (apply Ld.mk; (try simp only [evs]); first | exact hx | fail) | apply g_wp | apply g_ret | apply g_sel | (apply Om.mk; omega) | ((repeat (first | exact Evp.nil | (apply Evp.cons; (focus (apply Ev.mk; (simp only [evs, Nat.reduceEqDiff, reduceIte] <;> rfl))))));done) | (apply Hy.mk; assumption) | (apply Kr.mk; kernel_rfl) | fail)) | fail))
    obtain ⟨m2, hst, hrow, hoth, hnx⟩ := (row_new m zeroNode 58 0).fill (E := evEnv) (t := 58) (k := 5) (v := .agg ⟨x.val⟩) (by decide) rfl rfl rfl rfl rfl
    have hg : Grow m m2 := ((Grow.refl m).new _).wrote (Nat.le_refl _) hoth hnx
    have hn2 : m2.next = m.next + 1 := hnx
    apply ewpO_store
    focus exact want_none
    focus (simp only [evs, Nat.reduceEqDiff, reduceIte] <;> rfl)
    focus (simp only [evs, Nat.reduceEqDiff, reduceIte] <;> rfl)
    focus (simp only [evs]; exact hst)
    (repeat (first | apply ewp_seq | apply eret_seq | apply ewp_skip | apply ewp_region | apply ewpO_nil | apply ewp_block | apply eret_block | apply ewp_exit | apply eret_seq_exit | apply eret_loop_exit | apply ewp_ret | apply eret_seq_ret | apply eret_block_ret | apply eret_loop_ret | apply ewp_label | apply g_T | apply g_F | ((first | apply g_cond | apply g_block | apply g_regionD | apply g_guard | apply g_guard0 | apply g_move | apply g_assign | apply g_load | apply g_bin | apply g_un | apply g_pick | apply g_nil | apply g_nil0 | apply g_fieldAddr | apply g_indexAddr | apply g_indexS | apply g_field | apply g_len | apply g_max | apply g_min | apply g_extract | apply g_sliceHi | apply g_build | apply g_box | apply g_new | apply g_buildSlice | apply g_makeMap | fail) <;> (first | exact Rf.mk | (apply Ev.mk; (simp only [evs, Nat.reduceEqDiff, reduceIte] <;> rfl)) | (apply Dn.mk; (simp only [evs, Nat.reduceEqDiff, reduceIte] <;> rfl)) | apply g_wpO | (apply Cp.bin; (focus constructor); first | with_reducible exact Dc.r | with_reducible exact Dc.s | (apply Dc.t; first | with_reducible assumption | omega | fail) | (apply Dc.f; first | with_reducible assumption | omega | fail) | fail) | (apply n_add; (focus (first | (with_reducible (first | exact nadd1 _ | exact nadd2 _ | exact nadd3 _ | exact nladd1 _ | exact nladd2 _ | exact nladd3 _ | exact nadd _ _ | fail)) | rfl | fail)); omega) | (apply n_sub; (focus (first | (with_reducible first | exact nsub1 _ (by omega) | exact nsub _ _ (by omega) | fail) | rfl | fail)); omega) | ((first | apply n_peq | apply n_pne | fail); exact Rf.mk; exact Rf.mk) | (apply Ld.mk; (try simp only [evs]); first | exact hrow.load1 rfl rfl rfl | fail) | apply g_wp | apply g_ret | apply g_sel | (apply Om.mk; omega) | ((repeat (first | exact Evp.nil | (apply Evp.cons; (focus (apply Ev.mk; (simp only [evs, Nat.reduceEqDiff, reduceIte] <;> rfl))))));done) | (apply Hy.mk; assumption) | (apply Kr.mk; kernel_rfl) | fail)) | fail))
    ((first | apply g_run | apply g_run0 | fail) <;> (first | exact Rf.mk | (apply Ev.mk; (simp only [evs, Nat.reduceEqDiff, reduceIte] <;> rfl)) | (apply Dn.mk; (simp only [evs, Nat.reduceEqDiff, reduceIte] <;> rfl)) | apply g_wpO | (apply Cp.bin; (focus constructor); first | with_reducible exact Dc.r | with_reducible exact Dc.s | (apply Dc.t; first | with_reducible assumption | omega | fail) | (apply Dc.f; first | with_reducible assumption | omega | fail) | fail) | (apply n_add; (focus (first | (with_reducible (first | exact nadd1 _ | exact nadd2 _ | exact nadd3 _ | exact nladd1 _ | exact nladd2 _ | exact nladd3 _ | exact nadd _ _ | fail)) | rfl | fail)); omega) | (apply n_sub; (focus (first | (with_reducible first | exact nsub1 _ (by omega) | exact nsub _ _ (by omega) | fail) | rfl | fail)); omega) | ((first | apply n_peq | apply n_pne | fail); exact Rf.mk; exact Rf.mk) | (apply Ld.mk; (try simp only [evs]); first | rfl | fail) | apply g_wp | apply g_ret | apply g_sel | (apply Om.mk; omega) | ((repeat (first | exact Evp.nil | (apply Evp.cons; (focus (apply Ev.mk; (simp only [evs, Nat.reduceEqDiff, reduceIte] <;> rfl))))));done) | (apply Hy.mk; assumption) | (apply Kr.mk; kernel_rfl) | ((repeat (first | exact Evl.nil | (apply Evl.cons; (focus (apply Ev.mk; (simp only [evs, Nat.reduceEqDiff, reduceIte] <;> rfl))))));done) | exact Rn.mk (may62 _ _ _ hmust) | apply Cn.mk | fail))
    rintro v m' ⟨rfl, rfl⟩
    cases hmay : mayB x.kind must with
    | false =>
      (repeat (first | apply ewp_seq | apply eret_seq | apply ewp_skip | apply ewp_region | apply ewpO_nil | apply ewp_block | apply eret_block | apply ewp_exit | apply eret_seq_exit | apply eret_loop_exit | apply ewp_ret | apply eret_seq_ret | apply eret_block_ret | apply eret_loop_ret | apply ewp_label | apply g_T | apply g_F | ((first | apply g_cond | apply g_block | apply g_regionD | apply g_guard | apply g_guard0 | apply g_move | apply g_assign | apply g_load | apply g_bin | apply g_un | apply g_pick | apply g_nil | apply g_nil0 | apply g_fieldAddr | apply g_indexAddr | apply g_indexS | apply g_field | apply g_len | apply g_max | apply g_min | apply g_extract | apply g_sliceHi | apply g_build | apply g_box | apply g_new | apply g_buildSlice | apply g_makeMap | fail) <;> (first | exact Rf.mk | (apply Ev.mk; (simp only [evs, Nat.reduceEqDiff, reduceIte, hmay] <;> rfl)) | (apply Dn.mk; (simp only [evs, Nat.reduceEqDiff, reduceIte, hmay] <;> rfl)) | apply g_wpO | (apply Cp.bin; (focus constructor); first | with_reducible exact Dc.r | with_reducible exact Dc.s | (apply Dc.t; first | with_reducible assumption | omega | fail) | (apply Dc.f; first | with_reducible assumption | omega | fail) | fail) | (apply n_add; (focus (first | (with_reducible (first | exact nadd1 _ | exact nadd2 _ | exact nadd3 _ | exact nladd1 _ | exact nladd2 _ | exact nladd3 _ | exact nadd _ _ | fail)) | rfl | fail)); omega) | (apply n_sub; (focus (first | (with_reducible first | exact nsub1 _ (by omega) | exact nsub _ _ (by omega) | fail) | rfl | fail)); omega) | ((first | apply n_peq | apply n_pne | fail); exact Rf.mk; exact Rf.mk) | (apply Ld.mk; (try simp only [evs, hmay]); first | rfl | fail) | apply g_wp | apply g_ret | apply g_sel | (apply Om.mk; omega) | ((repeat (first | exact Evp.nil | (apply Evp.cons; (focus (apply Ev.mk; (simp only [evs, Nat.reduceEqDiff, reduceIte, hmay] <;> rfl))))));done) | (apply Hy.mk; assumption) | (apply Kr.mk; kernel_rfl) | fail)) | fail))
      (refine g_fin (by repeat (first | exact Rs.nil | (apply Rs.cons; (focus (apply Ev.mk; (simp only [evs, Nat.reduceEqDiff, reduceIte, hmay] <;> rfl)))))) (by (simp only [evs, Nat.reduceEqDiff, reduceIte, hmay] <;> first | rfl | (congr 1; omega) | omega)) ?_)
      refine ⟨by simp only [evs]; exact hg, at_, 8, rfl, hat, fun h => absurd h (by decide), fun y c st hc hp => ⟨fun h => absurd h (by decide), fun _ => ?_⟩⟩
      rw [hacc y c st hc hp, hmay]; rfl
    | true =>
    obtain ⟨k1, k2⟩ := may_range hmay
    (repeat (first | apply ewp_seq | apply eret_seq | apply ewp_skip | apply ewp_region | apply ewpO_nil | apply ewp_block | apply eret_block | apply ewp_exit | apply eret_seq_exit | apply eret_loop_exit | apply ewp_ret | apply eret_seq_ret | apply eret_block_ret | apply eret_loop_ret | apply ewp_label | apply g_T | apply g_F | ((first | apply g_cond | apply g_block | apply g_regionD | apply g_guard | apply g_guard0 | apply g_move | apply g_assign | apply g_load | apply g_bin | apply g_un | apply g_pick | apply g_nil | apply g_nil0 | apply g_fieldAddr | apply g_indexAddr | apply g_indexS | apply g_field | apply g_len | apply g_max | apply g_min | apply g_extract | apply g_sliceHi | apply g_build | apply g_box | apply g_new | apply g_buildSlice | apply g_makeMap | fail) <;> (first | exact Rf.mk | (apply Ev.mk; (simp only [evs, Nat.reduceEqDiff, reduceIte, hmay] <;> rfl)) | (apply Dn.mk; (simp only [evs, Nat.reduceEqDiff, reduceIte, hmay] <;> rfl)) | apply g_wpO | (apply Cp.bin; (focus constructor); first | with_reducible exact Dc.r | with_reducible exact Dc.s | (apply Dc.t; first | with_reducible assumption | omega | fail) | (apply Dc.f; first | with_reducible assumption | omega | fail) | fail) | (apply n_add; (focus (first | (with_reducible (first | exact nadd1 _ | exact nadd2 _ | exact nadd3 _ | exact nladd1 _ | exact nladd2 _ | exact nladd3 _ | exact nadd _ _ | fail)) | rfl | fail)); omega) | (apply n_sub; (focus (first | (with_reducible first | exact nsub1 _ (by omega) | exact nsub _ _ (by omega) | fail) | rfl | fail)); omega) | ((first | apply n_peq | apply n_pne | fail); exact Rf.mk; exact Rf.mk) | (apply Ld.mk; (try simp only [evs, hmay]); first | exact hrow.loadA rfl rfl rfl (Nat.le_refl 5) rfl | fail) | apply g_wp | apply g_ret | apply g_sel | (apply Om.mk; omega) | ((repeat (first | exact Evp.nil | (apply Evp.cons; (focus (apply Ev.mk; (simp only [evs, Nat.reduceEqDiff, reduceIte, hmay] <;> rfl))))));done) | (apply Hy.mk; assumption) | (apply Kr.mk; kernel_rfl) | fail)) | fail))
    ((first | apply g_run | apply g_run0 | fail) <;> (first | exact Rf.mk | (apply Ev.mk; (simp only [evs, Nat.reduceEqDiff, reduceIte, hmay] <;> rfl)) | (apply Dn.mk; (simp only [evs, Nat.reduceEqDiff, reduceIte, hmay] <;> rfl)) | apply g_wpO | (apply Cp.bin; (focus constructor); first | with_reducible exact Dc.r | with_reducible exact Dc.s | (apply Dc.t; first | with_reducible assumption | omega | fail) | (apply Dc.f; first | with_reducible assumption | omega | fail) | fail) | (apply n_add; (focus (first | (with_reducible (first | exact nadd1 _ | exact nadd2 _ | exact nadd3 _ | exact nladd1 _ | exact nladd2 _ | exact nladd3 _ | exact nadd _ _ | fail)) | rfl | fail)); omega) | (apply n_sub; (focus (first | (with_reducible first | exact nsub1 _ (by omega) | exact nsub _ _ (by omega) | fail) | rfl | fail)); omega) | ((first | apply n_peq | apply n_pne | fail); exact Rf.mk; exact Rf.mk) | (apply Ld.mk; (try simp only [evs, hmay]); first | rfl | fail) | apply g_wp | apply g_ret | apply g_sel | (apply Om.mk; omega) | ((repeat (first | exact Evp.nil | (apply Evp.cons; (focus (apply Ev.mk; (simp only [evs, Nat.reduceEqDiff, reduceIte, hmay] <;> rfl))))));done) | (apply Hy.mk; assumption) | (apply Kr.mk; kernel_rfl) | ((repeat (first | exact Evl.nil | (apply Evl.cons; (focus (apply Ev.mk; (simp only [evs, Nat.reduceEqDiff, reduceIte, hmay] <;> rfl))))));done) | exact Rn.mk (count63 x _ hxo k1 k2) | apply Cn.mk | fail))
    rintro v m3 ⟨rfl, hg3⟩
    simp only [evs] at hg3
    have hrow3 := hrow.grow hg3
    cases hcnt : countB x with
    | false =>
      (repeat (first | apply ewp_seq | apply eret_seq | apply ewp_skip | apply ewp_region | apply ewpO_nil | apply ewp_block | apply eret_block | apply ewp_exit | apply eret_seq_exit | apply eret_loop_exit | apply ewp_ret | apply eret_seq_ret | apply eret_block_ret | apply eret_loop_ret | apply ewp_label | apply g_T | apply g_F | ((first | apply g_cond | apply g_block | apply g_regionD | apply g_guard | apply g_guard0 | apply g_move | apply g_assign | apply g_load | apply g_bin | apply g_un | apply g_pick | apply g_nil | apply g_nil0 | apply g_fieldAddr | apply g_indexAddr | apply g_indexS | apply g_field | apply g_len | apply g_max | apply g_min | apply g_extract | apply g_sliceHi | apply g_build | apply g_box | apply g_new | apply g_buildSlice | apply g_makeMap | fail) <;> (first | exact Rf.mk | (apply Ev.mk; (simp only [evs, Nat.reduceEqDiff, reduceIte, hmay, hcnt] <;> rfl)) | (apply Dn.mk; (simp only [evs, Nat.reduceEqDiff, reduceIte, hmay, hcnt] <;> rfl)) | apply g_wpO | (apply Cp.bin; (focus constructor); first | with_reducible exact Dc.r | with_reducible exact Dc.s | (apply Dc.t; first | with_reducible assumption | omega | fail) | (apply Dc.f; first | with_reducible assumption | omega | fail) | fail) | (apply n_add; (focus (first | (with_reducible (first | exact nadd1 _ | exact nadd2 _ | exact nadd3 _ | exact nladd1 _ | exact nladd2 _ | exact nladd3 _ | exact nadd _ _ | fail)) | rfl | fail)); omega) | (apply n_sub; (focus (first | (with_reducible first | exact nsub1 _ (by omega) | exact nsub _ _ (by omega) | fail) | rfl | fail)); omega) | ((first | apply n_peq | apply n_pne | fail); exact Rf.mk; exact Rf.mk) | (apply Ld.mk; (try simp only [evs, hmay, hcnt]); first | rfl | fail) | apply g_wp | apply g_ret | apply g_sel | (apply Om.mk; omega) | ((repeat (first | exact Evp.nil | (apply Evp.cons; (focus (apply Ev.mk; (simp only [evs, Nat.reduceEqDiff, reduceIte, hmay, hcnt] <;> rfl))))));done) | (apply Hy.mk; assumption) | (apply Kr.mk; kernel_rfl) | fail)) | fail))
      (refine g_fin (by repeat (first | exact Rs.nil | (apply Rs.cons; (focus (apply Ev.mk; (simp only [evs, Nat.reduceEqDiff, reduceIte, hmay, hcnt] <;> rfl)))))) (by (simp only [evs, Nat.reduceEqDiff, reduceIte, hmay, hcnt] <;> first | rfl | (congr 1; omega) | omega)) ?_)
      refine ⟨by simp only [evs]; exact hg.trans hg3, at_, 1, rfl, hat, fun h => absurd h (by decide), fun y c st hc hp => ⟨fun h => absurd h (by decide), fun _ => ?_⟩⟩
      rw [hacc y c st hc hp, show okR x = false by unfold okR; rw [hcnt]; rfl]; simp
    | true =>
    (repeat (first | apply ewp_seq | apply eret_seq | apply ewp_skip | apply ewp_region | apply ewpO_nil | apply ewp_block | apply eret_block | apply ewp_exit | apply eret_seq_exit | apply eret_loop_exit | apply ewp_ret | apply eret_seq_ret | apply eret_block_ret | apply eret_loop_ret | apply ewp_label | apply g_T | apply g_F | ((first | apply g_cond | apply g_block | apply g_regionD | apply g_guard | apply g_guard0 | apply g_move | apply g_assign | apply g_load | apply g_bin | apply g_un | apply g_pick | apply g_nil | apply g_nil0 | apply g_fieldAddr | apply g_indexAddr | apply g_indexS | apply g_field | apply g_len | apply g_max | apply g_min | apply g_extract | apply g_sliceHi | apply g_build | apply g_box | apply g_new | apply g_buildSlice | apply g_makeMap | fail) <;> (first | exact Rf.mk | (apply Ev.mk; (simp only [evs, Nat.reduceEqDiff, reduceIte, hmay, hcnt] <;> rfl)) | (apply Dn.mk; (simp only [evs, Nat.reduceEqDiff, reduceIte, hmay, hcnt] <;> rfl)) | apply g_wpO | (apply Cp.bin; (focus constructor); first | with_reducible exact Dc.r | with_reducible exact Dc.s | (apply Dc.t; first | with_reducible assumption | omega | fail) | (apply Dc.f; first | with_reducible assumption | omega | fail) | fail) | (apply n_add; (focus (first | (with_reducible (first | exact nadd1 _ | exact nadd2 _ | exact nadd3 _ | exact nladd1 _ | exact nladd2 _ | exact nladd3 _ | exact nadd _ _ | fail)) | rfl | fail)); omega) | (apply n_sub; (focus (first | (with_reducible first | exact nsub1 _ (by omega) | exact nsub _ _ (by omega) | fail) | rfl | fail)); omega) | ((first | apply n_peq | apply n_pne | fail); exact Rf.mk; exact Rf.mk) | (apply Ld.mk; (try simp only [evs, hmay, hcnt]); first | exact hrow3.loadA rfl rfl rfl (Nat.le_refl 5) rfl | fail) | apply g_wp | apply g_ret | apply g_sel | (apply Om.mk; omega) | ((repeat (first | exact Evp.nil | (apply Evp.cons; (focus (apply Ev.mk; (simp only [evs, Nat.reduceEqDiff, reduceIte, hmay, hcnt] <;> rfl))))));done) | (apply Hy.mk; assumption) | (apply Kr.mk; kernel_rfl) | fail)) | fail))
    ((first | apply g_run | apply g_run0 | fail) <;> (first | exact Rf.mk | (apply Ev.mk; (simp only [evs, Nat.reduceEqDiff, reduceIte, hmay, hcnt] <;> rfl)) | (apply Dn.mk; (simp only [evs, Nat.reduceEqDiff, reduceIte, hmay, hcnt] <;> rfl)) | apply g_wpO | (apply Cp.bin; (focus constructor); first | with_reducible exact Dc.r | with_reducible exact Dc.s | (apply Dc.t; first | with_reducible assumption | omega | fail) | (apply Dc.f; first | with_reducible assumption | omega | fail) | fail) | (apply n_add; (focus (first | (with_reducible (first | exact nadd1 _ | exact nadd2 _ | exact nadd3 _ | exact nladd1 _ | exact nladd2 _ | exact nladd3 _ | exact nadd _ _ | fail)) | rfl | fail)); omega) | (apply n_sub; (focus (first | (with_reducible first | exact nsub1 _ (by omega) | exact nsub _ _ (by omega) | fail) | rfl | fail)); omega) | ((first | apply n_peq | apply n_pne | fail); exact Rf.mk; exact Rf.mk) | (apply Ld.mk; (try simp only [evs, hmay, hcnt]); first | rfl | fail) | apply g_wp | apply g_ret | apply g_sel | (apply Om.mk; omega) | ((repeat (first | exact Evp.nil | (apply Evp.cons; (focus (apply Ev.mk; (simp only [evs, Nat.reduceEqDiff, reduceIte, hmay, hcnt] <;> rfl))))));done) | (apply Hy.mk; assumption) | (apply Kr.mk; kernel_rfl) | ((repeat (first | exact Evl.nil | (apply Evl.cons; (focus (apply Ev.mk; (simp only [evs, Nat.reduceEqDiff, reduceIte, hmay, hcnt] <;> rfl))))));done) | exact Rn.mk (fields64 x _ hxo hxt) | apply Cn.mk | fail))
    rintro v m4 ⟨rfl, hg4⟩
    simp only [evs] at hg4
    have hrow4 := hrow3.grow hg4
    have hgg := (hg.trans hg3).trans hg4
    cases hfld : fieldsB x with
    | false =>
      (repeat (first | apply ewp_seq | apply eret_seq | apply ewp_skip | apply ewp_region | apply ewpO_nil | apply ewp_block | apply eret_block | apply ewp_exit | apply eret_seq_exit | apply eret_loop_exit | apply ewp_ret | apply eret_seq_ret | apply eret_block_ret | apply eret_loop_ret | apply ewp_label | apply g_T | apply g_F | ((first | apply g_cond | apply g_block | apply g_regionD | apply g_guard | apply g_guard0 | apply g_move | apply g_assign | apply g_load | apply g_bin | apply g_un | apply g_pick | apply g_nil | apply g_nil0 | apply g_fieldAddr | apply g_indexAddr | apply g_indexS | apply g_field | apply g_len | apply g_max | apply g_min | apply g_extract | apply g_sliceHi | apply g_build | apply g_box | apply g_new | apply g_buildSlice | apply g_makeMap | fail) <;> (first | exact Rf.mk | (apply Ev.mk; (simp only [evs, Nat.reduceEqDiff, reduceIte, hmay, hcnt, hfld] <;> rfl)) | (apply Dn.mk; (simp only [evs, Nat.reduceEqDiff, reduceIte, hmay, hcnt, hfld] <;> rfl)) | apply g_wpO | (apply Cp.bin; (focus constructor); first | with_reducible exact Dc.r | with_reducible exact Dc.s | (apply Dc.t; first | with_reducible assumption | omega | fail) | (apply Dc.f; first | with_reducible assumption | omega | fail) | fail) | (apply n_add; (focus (first | (with_reducible (first | exact nadd1 _ | exact nadd2 _ | exact nadd3 _ | exact nladd1 _ | exact nladd2 _ | exact nladd3 _ | exact nadd _ _ | fail)) | rfl | fail)); omega) | (apply n_sub; (focus (first | (with_reducible first | exact nsub1 _ (by omega) | exact nsub _ _ (by omega) | fail) | rfl | fail)); omega) | ((first | apply n_peq | apply n_pne | fail); exact Rf.mk; exact Rf.mk) | (apply Ld.mk; (try simp only [evs, hmay, hcnt, hfld]); first | rfl | fail) | apply g_wp | apply g_ret | apply g_sel | (apply Om.mk; omega) | ((repeat (first | exact Evp.nil | (apply Evp.cons; (focus (apply Ev.mk; (simp only [evs, Nat.reduceEqDiff, reduceIte, hmay, hcnt, hfld] <;> rfl))))));done) | (apply Hy.mk; assumption) | (apply Kr.mk; kernel_rfl) | fail)) | fail))
      (refine g_fin (by repeat (first | exact Rs.nil | (apply Rs.cons; (focus (apply Ev.mk; (simp only [evs, Nat.reduceEqDiff, reduceIte, hmay, hcnt, hfld] <;> rfl)))))) (by (simp only [evs, Nat.reduceEqDiff, reduceIte, hmay, hcnt, hfld] <;> first | rfl | (congr 1; omega) | omega)) ?_)
      refine ⟨by simp only [evs]; exact hgg, at_, 1, rfl, hat, fun h => absurd h (by decide), fun y c st hc hp => ⟨fun h => absurd h (by decide), fun _ => ?_⟩⟩
      rw [hacc y c st hc hp, show okR x = false by unfold okR; rw [hcnt, hfld]; rfl]; simp
    | true =>
    have hokx : okR x = true := by unfold okR; rw [hcnt, hfld]; rfl
    have hn0 := count_pos hcnt
    obtain ⟨-, ⟨n1, n2⟩, -, -⟩ := hxo
    (repeat (first | apply ewp_seq | apply eret_seq | apply ewp_skip | apply ewp_region | apply ewpO_nil | apply ewp_block | apply eret_block | apply ewp_exit | apply eret_seq_exit | apply eret_loop_exit | apply ewp_ret | apply eret_seq_ret | apply eret_block_ret | apply eret_loop_ret | apply ewp_label | apply g_T | apply g_F | ((first | apply g_cond | apply g_block | apply g_regionD | apply g_guard | apply g_guard0 | apply g_move | apply g_assign | apply g_load | apply g_bin | apply g_un | apply g_pick | apply g_nil | apply g_nil0 | apply g_fieldAddr | apply g_indexAddr | apply g_indexS | apply g_field | apply g_len | apply g_max | apply g_min | apply g_extract | apply g_sliceHi | apply g_build | apply g_box | apply g_new | apply g_buildSlice | apply g_makeMap | fail) <;> (first | exact Rf.mk | (apply Ev.mk; (simp only [evs, Nat.reduceEqDiff, reduceIte, hmay, hcnt, hfld] <;> rfl)) | (apply Dn.mk; (simp only [evs, Nat.reduceEqDiff, reduceIte, hmay, hcnt, hfld] <;> rfl)) | apply g_wpO | (apply Cp.bin; (focus constructor); first | with_reducible exact Dc.r | with_reducible exact Dc.s | (apply Dc.t; first | with_reducible assumption | omega | fail) | (apply Dc.f; first | with_reducible assumption | omega | fail) | fail) | (apply n_add; (focus (first | (with_reducible (first | exact nadd1 _ | exact nadd2 _ | exact nadd3 _ | exact nladd1 _ | exact nladd2 _ | exact nladd3 _ | exact nadd _ _ | fail)) | rfl | fail)); omega) | (apply n_sub; (focus (first | (with_reducible first | exact nsub1 _ (by omega) | exact nsub _ _ (by omega) | fail) | rfl | fail)); omega) | ((first | apply n_peq | apply n_pne | fail); exact Rf.mk; exact Rf.mk) | (apply Ld.mk; (try simp only [evs, hmay, hcnt, hfld]); first | rfl | fail) | apply g_wp | apply g_ret | apply g_sel | (apply Om.mk; omega) | ((repeat (first | exact Evp.nil | (apply Evp.cons; (focus (apply Ev.mk; (simp only [evs, Nat.reduceEqDiff, reduceIte, hmay, hcnt, hfld] <;> rfl))))));done) | (apply Hy.mk; assumption) | (apply Kr.mk; kernel_rfl) | fail)) | fail))
    refine ewp_loop (ι := Nat × Nat × Mem) (fun i a => a.n = 60 ∧ a.defers = [] ∧ a.m = i.2.2 ∧ Grow m i.2.2 ∧ Row i.2.2 m.next x.val 58 0 ∧ a.tmp 0 = .slice (some ⟨b, off, none⟩) l.length cap ∧ a.tmp 8 = .pointer (some ⟨m.next, 0, none⟩) ∧ a.tmp 9 = .int .i64 i.2.1 ∧ a.tmp 10 = .int .i64 i.1 ∧
      (i.1 : Int) ≤ x.n ∧ i.1 + at_ + 1 ≤ i.2.1 ∧ i.2.1 ≤ l.length ∧ ∀ (y : Du) (c : Nat) (st : List (Du × Nat)), (c : Int) < y.n → y.pl c = must → accept (l.drop at_) ((y, c) :: st) = accept (l.drop i.2.1) ((x.du, i.1) :: (y, c + 1) :: st)) (fun i => l.length - i.2.1) (0, at_ + 1, m4) ?_ ?_
    · refine ⟨by (simp only [evs, Nat.reduceEqDiff, reduceIte] <;> first | rfl | (congr 1; omega) | omega), by (simp only [evs, Nat.reduceEqDiff, reduceIte] <;> first | rfl | (congr 1; omega) | omega), by (simp only [evs, Nat.reduceEqDiff, reduceIte] <;> first | rfl | (congr 1; omega) | omega), hgg, hrow4, by (simp only [evs, Nat.reduceEqDiff, reduceIte] <;> first | rfl | (congr 1; omega) | omega), by (simp only [evs, Nat.reduceEqDiff, reduceIte] <;> first | rfl | (congr 1; omega) | omega), by (simp only [evs, Nat.reduceEqDiff, reduceIte] <;> first | rfl | (congr 1; omega) | omega), by (simp only [evs, Nat.reduceEqDiff, reduceIte] <;> first | rfl | (congr 1; omega) | omega), hn0, by simp only; omega, by simp only; omega, fun y c st hc hp => ?_⟩
      rw [hacc y c st hc hp, hmay, hokx]; rfl
    rintro ⟨i, k, mk⟩ a ⟨hn, hd2, hm, hgk, hrk, h0, h8, h9, h10, hin, hik, hkl, hak⟩ ih
    simp only at hn hd2 hm hgk hrk h0 h8 h9 h10 hin hik hkl hak ih
    rcases Int.lt_or_le (i : Int) x.n with hilt | hige
    · have hpl := placeR_le hcnt i hilt
      (repeat (first | apply ewp_seq | apply eret_seq | apply ewp_skip | apply ewp_region | apply ewpO_nil | apply ewp_block | apply eret_block | apply ewp_exit | apply eret_seq_exit | apply eret_loop_exit | apply ewp_ret | apply eret_seq_ret | apply eret_block_ret | apply eret_loop_ret | apply ewp_label | apply g_T | apply g_F | ((first | apply g_cond | apply g_block | apply g_regionD | apply g_guard | apply g_guard0 | apply g_move | apply g_assign | apply g_load | apply g_bin | apply g_un | apply g_pick | apply g_nil | apply g_nil0 | apply g_fieldAddr | apply g_indexAddr | apply g_indexS | apply g_field | apply g_len | apply g_max | apply g_min | apply g_extract | apply g_sliceHi | apply g_build | apply g_box | apply g_new | apply g_buildSlice | apply g_makeMap | fail) <;> (first | exact Rf.mk | (apply Ev.mk; (simp only [evs, Nat.reduceEqDiff, reduceIte, hn, hd2, hm, h0, h8, h9, h10] <;> rfl)) | (apply Dn.mk; (simp only [evs, Nat.reduceEqDiff, reduceIte, hn, hd2, hm, h0, h8, h9, h10] <;> rfl)) | apply g_wpO | (apply Cp.bin; (focus constructor); first | with_reducible exact Dc.r | with_reducible exact Dc.s | (apply Dc.t; first | with_reducible assumption | omega | fail) | (apply Dc.f; first | with_reducible assumption | omega | fail) | fail) | (apply n_add; (focus (first | (with_reducible (first | exact nadd1 _ | exact nadd2 _ | exact nadd3 _ | exact nladd1 _ | exact nladd2 _ | exact nladd3 _ | exact nadd _ _ | fail)) | rfl | fail)); omega) | (apply n_sub; (focus (first | (with_reducible first | exact nsub1 _ (by omega) | exact nsub _ _ (by omega) | fail) | rfl | fail)); omega) | ((first | apply n_peq | apply n_pne | fail); exact Rf.mk; exact Rf.mk) | (apply Ld.mk; (try simp only [evs, hn, hd2, hm, h0, h8, h9, h10]); first | exact hrk.load1 rfl rfl rfl | exact hrk.loadA rfl rfl rfl (Nat.le_refl 5) rfl | fail) | apply g_wp | apply g_ret | apply g_sel | (apply Om.mk; omega) | ((repeat (first | exact Evp.nil | (apply Evp.cons; (focus (apply Ev.mk; (simp only [evs, Nat.reduceEqDiff, reduceIte, hn, hd2, hm, h0, h8, h9, h10] <;> rfl))))));done) | (apply Hy.mk; assumption) | (apply Kr.mk; kernel_rfl) | fail)) | fail))
      ((first | apply g_run | apply g_run0 | fail) <;> (first | exact Rf.mk | (apply Ev.mk; (simp only [evs, Nat.reduceEqDiff, reduceIte, hn, hd2, hm, h0, h8, h9, h10] <;> rfl)) | (apply Dn.mk; (simp only [evs, Nat.reduceEqDiff, reduceIte, hn, hd2, hm, h0, h8, h9, h10] <;> rfl)) | apply g_wpO | (apply Cp.bin; (focus constructor); first | with_reducible exact Dc.r | with_reducible exact Dc.s | (apply Dc.t; first | with_reducible assumption | omega | fail) | (apply Dc.f; first | with_reducible assumption | omega | fail) | fail) | (apply n_add; (focus (first | (with_reducible (first | exact nadd1 _ | exact nadd2 _ | exact nadd3 _ | exact nladd1 _ | exact nladd2 _ | exact nladd3 _ | exact nadd _ _ | fail)) | rfl | fail)); omega) | (apply n_sub; (focus (first | (with_reducible first | exact nsub1 _ (by omega) | exact nsub _ _ (by omega) | fail) | rfl | fail)); omega) | ((first | apply n_peq | apply n_pne | fail); exact Rf.mk; exact Rf.mk) | (apply Ld.mk; (try simp only [evs, hn, hd2, hm, h0, h8, h9, h10]); first | rfl | fail) | apply g_wp | apply g_ret | apply g_sel | (apply Om.mk; omega) | ((repeat (first | exact Evp.nil | (apply Evp.cons; (focus (apply Ev.mk; (simp only [evs, Nat.reduceEqDiff, reduceIte, hn, hd2, hm, h0, h8, h9, h10] <;> rfl))))));done) | (apply Hy.mk; assumption) | (apply Kr.mk; kernel_rfl) | ((repeat (first | exact Evl.nil | (apply Evl.cons; (focus (apply Ev.mk; (simp only [evs, Nat.reduceEqDiff, reduceIte, hn, hd2, hm, h0, h8, h9, h10] <;> rfl))))));done) | exact Rn.mk (place65 x i _ hn0 n2 hilt (by omega) k1 k2) | apply Cn.mk | fail))
      rintro v m5 ⟨rfl, hg5⟩
      simp only [evs, hm] at hg5
      have hgk5 := hgk.trans hg5
      (repeat (first | apply ewp_seq | apply eret_seq | apply ewp_skip | apply ewp_region | apply ewpO_nil | apply ewp_block | apply eret_block | apply ewp_exit | apply eret_seq_exit | apply eret_loop_exit | apply ewp_ret | apply eret_seq_ret | apply eret_block_ret | apply eret_loop_ret | apply ewp_label | apply g_T | apply g_F | ((first | apply g_cond | apply g_block | apply g_regionD | apply g_guard | apply g_guard0 | apply g_move | apply g_assign | apply g_load | apply g_bin | apply g_un | apply g_pick | apply g_nil | apply g_nil0 | apply g_fieldAddr | apply g_indexAddr | apply g_indexS | apply g_field | apply g_len | apply g_max | apply g_min | apply g_extract | apply g_sliceHi | apply g_build | apply g_box | apply g_new | apply g_buildSlice | apply g_makeMap | fail) <;> (first | exact Rf.mk | (apply Ev.mk; (simp only [evs, Nat.reduceEqDiff, reduceIte, hn, hd2, hm, h0, h8, h9, h10] <;> rfl)) | (apply Dn.mk; (simp only [evs, Nat.reduceEqDiff, reduceIte, hn, hd2, hm, h0, h8, h9, h10] <;> rfl)) | apply g_wpO | (apply Cp.bin; (focus constructor); first | with_reducible exact Dc.r | with_reducible exact Dc.s | (apply Dc.t; first | with_reducible assumption | omega | fail) | (apply Dc.f; first | with_reducible assumption | omega | fail) | fail) | (apply n_add; (focus (first | (with_reducible (first | exact nadd1 _ | exact nadd2 _ | exact nadd3 _ | exact nladd1 _ | exact nladd2 _ | exact nladd3 _ | exact nadd _ _ | fail)) | rfl | fail)); omega) | (apply n_sub; (focus (first | (with_reducible first | exact nsub1 _ (by omega) | exact nsub _ _ (by omega) | fail) | rfl | fail)); omega) | ((first | apply n_peq | apply n_pne | fail); exact Rf.mk; exact Rf.mk) | (apply Ld.mk; (try simp only [evs, hn, hd2, hm, h0, h8, h9, h10]); first | rfl | fail) | apply g_wp | apply g_ret | apply g_sel | (apply Om.mk; omega) | ((repeat (first | exact Evp.nil | (apply Evp.cons; (focus (apply Ev.mk; (simp only [evs, Nat.reduceEqDiff, reduceIte, hn, hd2, hm, h0, h8, h9, h10] <;> rfl))))));done) | (apply Hy.mk; assumption) | (apply Kr.mk; kernel_rfl) | fail)) | fail))
      ((first | apply g_run | apply g_run0 | fail) <;> (first | exact Rf.mk | (apply Ev.mk; (simp only [evs, Nat.reduceEqDiff, reduceIte, hn, hd2, hm, h0, h8, h9, h10] <;> rfl)) | (apply Dn.mk; (simp only [evs, Nat.reduceEqDiff, reduceIte, hn, hd2, hm, h0, h8, h9, h10] <;> rfl)) | apply g_wpO | (apply Cp.bin; (focus constructor); first | with_reducible exact Dc.r | with_reducible exact Dc.s | (apply Dc.t; first | with_reducible assumption | omega | fail) | (apply Dc.f; first | with_reducible assumption | omega | fail) | fail) | (apply n_add; (focus (first | (with_reducible (first | exact nadd1 _ | exact nadd2 _ | exact nadd3 _ | exact nladd1 _ | exact nladd2 _ | exact nladd3 _ | exact nadd _ _ | fail)) | rfl | fail)); omega) | (apply n_sub; (focus (first | (with_reducible first | exact nsub1 _ (by omega) | exact nsub _ _ (by omega) | fail) | rfl | fail)); omega) | ((first | apply n_peq | apply n_pne | fail); exact Rf.mk; exact Rf.mk) | (apply Ld.mk; (try simp only [evs, hn, hd2, hm, h0, h8, h9, h10]); first | rfl | fail) | apply g_wp | apply g_ret | apply g_sel | (apply Om.mk; omega) | ((repeat (first | exact Evp.nil | (apply Evp.cons; (focus (apply Ev.mk; (simp only [evs, Nat.reduceEqDiff, reduceIte, hn, hd2, hm, h0, h8, h9, h10] <;> rfl))))));done) | (apply Hy.mk; assumption) | (apply Kr.mk; kernel_rfl) | ((repeat (first | exact Evl.nil | (apply Evl.cons; (focus (apply Ev.mk; (simp only [evs, Nat.reduceEqDiff, reduceIte, hn, hd2, hm, h0, h8, h9, h10] <;> rfl))))));done) | exact Rn.mk (ihd k (placeR x i) _ (by omega) hkl hpl (by simp only [evs]; exact hN.grow hbn hgk5) (by simp only [evs]; exact Nat.lt_of_lt_of_le hbn hgk5.1)) | apply Cn.mk | fail))
      rintro v m6 ⟨hg6, p, e, rfl, hpl2, hlt2, hch⟩
      simp only [evs] at hg6
      have hgk6 := hgk5.trans hg6
      by_cases he : e = 0
      · subst he
        (repeat (first | apply ewp_seq | apply eret_seq | apply ewp_skip | apply ewp_region | apply ewpO_nil | apply ewp_block | apply eret_block | apply ewp_exit | apply eret_seq_exit | apply eret_loop_exit | apply ewp_ret | apply eret_seq_ret | apply eret_block_ret | apply eret_loop_ret | apply ewp_label | apply g_T | apply g_F | ((first | apply g_cond | apply g_block | apply g_regionD | apply g_guard | apply g_guard0 | apply g_move | apply g_assign | apply g_load | apply g_bin | apply g_un | apply g_pick | apply g_nil | apply g_nil0 | apply g_fieldAddr | apply g_indexAddr | apply g_indexS | apply g_field | apply g_len | apply g_max | apply g_min | apply g_extract | apply g_sliceHi | apply g_build | apply g_box | apply g_new | apply g_buildSlice | apply g_makeMap | fail) <;> (first | exact Rf.mk | (apply Ev.mk; (simp only [evs, Nat.reduceEqDiff, reduceIte, hn, hd2, hm, h0, h8, h9, h10] <;> rfl)) | (apply Dn.mk; (simp only [evs, Nat.reduceEqDiff, reduceIte, hn, hd2, hm, h0, h8, h9, h10] <;> rfl)) | apply g_wpO | (apply Cp.bin; (focus constructor); first | with_reducible exact Dc.r | with_reducible exact Dc.s | (apply Dc.t; first | with_reducible assumption | omega | fail) | (apply Dc.f; first | with_reducible assumption | omega | fail) | fail) | (apply n_add; (focus (first | (with_reducible (first | exact nadd1 _ | exact nadd2 _ | exact nadd3 _ | exact nladd1 _ | exact nladd2 _ | exact nladd3 _ | exact nadd _ _ | fail)) | rfl | fail)); omega) | (apply n_sub; (focus (first | (with_reducible first | exact nsub1 _ (by omega) | exact nsub _ _ (by omega) | fail) | rfl | fail)); omega) | ((first | apply n_peq | apply n_pne | fail); exact Rf.mk; exact Rf.mk) | (apply Ld.mk; (try simp only [evs, hn, hd2, hm, h0, h8, h9, h10]); first | rfl | fail) | apply g_wp | apply g_ret | apply g_sel | (apply Om.mk; omega) | ((repeat (first | exact Evp.nil | (apply Evp.cons; (focus (apply Ev.mk; (simp only [evs, Nat.reduceEqDiff, reduceIte, hn, hd2, hm, h0, h8, h9, h10] <;> rfl))))));done) | (apply Hy.mk; assumption) | (apply Kr.mk; kernel_rfl) | fail)) | fail))
        refine ih (i + 1, p, m6) _ ?_ (by simp only; have := hlt2 rfl; omega)
        refine ⟨by (simp only [evs, Nat.reduceEqDiff, reduceIte, hn] <;> first | rfl | (congr 1; omega) | omega), by (simp only [evs, Nat.reduceEqDiff, reduceIte, hd2] <;> first | rfl | (congr 1; omega) | omega), by (simp only [evs, Nat.reduceEqDiff, reduceIte, hm] <;> first | rfl | (congr 1; omega) | omega), hgk6, (hrk.grow hg5).grow hg6, by (simp only [evs, Nat.reduceEqDiff, reduceIte, h0] <;> first | rfl | (congr 1; omega) | omega), by (simp only [evs, Nat.reduceEqDiff, reduceIte, h8] <;> first | rfl | (congr 1; omega) | omega), by (simp only [evs, Nat.reduceEqDiff, reduceIte, h9] <;> first | rfl | (congr 1; omega) | omega), by (simp only [evs, Nat.reduceEqDiff, reduceIte, h10] <;> first | rfl | (congr 1; omega) | omega), ?_, ?_, hpl2, fun y c st hc hp => ?_⟩
        · simp only; omega
        · simp only; have := hlt2 rfl; omega
        · rw [hak y c st hc hp]
          exact (hch x.du i _ hilt rfl).1 rfl
      · (repeat (first | apply ewp_seq | apply eret_seq | apply ewp_skip | apply ewp_region | apply ewpO_nil | apply ewp_block | apply eret_block | apply ewp_exit | apply eret_seq_exit | apply eret_loop_exit | apply ewp_ret | apply eret_seq_ret | apply eret_block_ret | apply eret_loop_ret | apply ewp_label | apply g_T | apply g_F | ((first | apply g_cond | apply g_block | apply g_regionD | apply g_guard | apply g_guard0 | apply g_move | apply g_assign | apply g_load | apply g_bin | apply g_un | apply g_pick | apply g_nil | apply g_nil0 | apply g_fieldAddr | apply g_indexAddr | apply g_indexS | apply g_field | apply g_len | apply g_max | apply g_min | apply g_extract | apply g_sliceHi | apply g_build | apply g_box | apply g_new | apply g_buildSlice | apply g_makeMap | fail) <;> (first | exact Rf.mk | (apply Ev.mk; (simp only [evs, Nat.reduceEqDiff, reduceIte, hn, hd2, hm, h0, h8, h9, h10] <;> rfl)) | (apply Dn.mk; (simp only [evs, Nat.reduceEqDiff, reduceIte, hn, hd2, hm, h0, h8, h9, h10] <;> rfl)) | apply g_wpO | (apply Cp.bin; (focus constructor); first | with_reducible exact Dc.r | with_reducible exact Dc.s | (apply Dc.t; first | with_reducible assumption | omega | fail) | (apply Dc.f; first | with_reducible assumption | omega | fail) | fail) | (apply n_add; (focus (first | (with_reducible (first | exact nadd1 _ | exact nadd2 _ | exact nadd3 _ | exact nladd1 _ | exact nladd2 _ | exact nladd3 _ | exact nadd _ _ | fail)) | rfl | fail)); omega) | (apply n_sub; (focus (first | (with_reducible first | exact nsub1 _ (by omega) | exact nsub _ _ (by omega) | fail) | rfl | fail)); omega) | ((first | apply n_peq | apply n_pne | fail); exact Rf.mk; exact Rf.mk) | (apply Ld.mk; (try simp only [evs, hn, hd2, hm, h0, h8, h9, h10]); first | rfl | fail) | apply g_wp | apply g_ret | apply g_sel | (apply Om.mk; omega) | ((repeat (first | exact Evp.nil | (apply Evp.cons; (focus (apply Ev.mk; (simp only [evs, Nat.reduceEqDiff, reduceIte, hn, hd2, hm, h0, h8, h9, h10] <;> rfl))))));done) | (apply Hy.mk; assumption) | (apply Kr.mk; kernel_rfl) | fail)) | fail))
        (refine g_fin (by repeat (first | exact Rs.nil | (apply Rs.cons; (focus (apply Ev.mk; (simp only [evs, Nat.reduceEqDiff, reduceIte, hn, hd2, hm, h0, h8, h9, h10] <;> rfl)))))) (by (simp only [evs, Nat.reduceEqDiff, reduceIte, hn, hd2, hm, h0, h8, h9, h10] <;> first | rfl | (congr 1; omega) | omega)) ?_)
        refine ⟨by simp only [evs]; exact hgk6, p, e, rfl, hpl2, fun h => absurd h he, fun y c st hc hp => ⟨fun h => absurd h he, fun _ => ?_⟩⟩
        rw [hak y c st hc hp]
        exact (hch x.du i _ hilt rfl).2 he
    · (repeat (first | apply ewp_seq | apply eret_seq | apply ewp_skip | apply ewp_region | apply ewpO_nil | apply ewp_block | apply eret_block | apply ewp_exit | apply eret_seq_exit | apply eret_loop_exit | apply ewp_ret | apply eret_seq_ret | apply eret_block_ret | apply eret_loop_ret | apply ewp_label | apply g_T | apply g_F | ((first | apply g_cond | apply g_block | apply g_regionD | apply g_guard | apply g_guard0 | apply g_move | apply g_assign | apply g_load | apply g_bin | apply g_un | apply g_pick | apply g_nil | apply g_nil0 | apply g_fieldAddr | apply g_indexAddr | apply g_indexS | apply g_field | apply g_len | apply g_max | apply g_min | apply g_extract | apply g_sliceHi | apply g_build | apply g_box | apply g_new | apply g_buildSlice | apply g_makeMap | fail) <;> (first | exact Rf.mk | (apply Ev.mk; (simp only [evs, Nat.reduceEqDiff, reduceIte, hn, hd2, hm, h0, h8, h9, h10] <;> rfl)) | (apply Dn.mk; (simp only [evs, Nat.reduceEqDiff, reduceIte, hn, hd2, hm, h0, h8, h9, h10] <;> rfl)) | apply g_wpO | (apply Cp.bin; (focus constructor); first | with_reducible exact Dc.r | with_reducible exact Dc.s | (apply Dc.t; first | with_reducible assumption | omega | fail) | (apply Dc.f; first | with_reducible assumption | omega | fail) | fail) | (apply n_add; (focus (first | (with_reducible (first | exact nadd1 _ | exact nadd2 _ | exact nadd3 _ | exact nladd1 _ | exact nladd2 _ | exact nladd3 _ | exact nadd _ _ | fail)) | rfl | fail)); omega) | (apply n_sub; (focus (first | (with_reducible first | exact nsub1 _ (by omega) | exact nsub _ _ (by omega) | fail) | rfl | fail)); omega) | ((first | apply n_peq | apply n_pne | fail); exact Rf.mk; exact Rf.mk) | (apply Ld.mk; (try simp only [evs, hn, hd2, hm, h0, h8, h9, h10]); first | exact hrk.load1 rfl rfl rfl | fail) | apply g_wp | apply g_ret | apply g_sel | (apply Om.mk; omega) | ((repeat (first | exact Evp.nil | (apply Evp.cons; (focus (apply Ev.mk; (simp only [evs, Nat.reduceEqDiff, reduceIte, hn, hd2, hm, h0, h8, h9, h10] <;> rfl))))));done) | (apply Hy.mk; assumption) | (apply Kr.mk; kernel_rfl) | fail)) | fail))
      (refine g_fin (by repeat (first | exact Rs.nil | (apply Rs.cons; (focus (apply Ev.mk; (simp only [evs, Nat.reduceEqDiff, reduceIte, hn, hd2, hm, h0, h8, h9, h10] <;> rfl)))))) (by (simp only [evs, Nat.reduceEqDiff, reduceIte, hn, hd2, hm, h0, h8, h9, h10] <;> first | rfl | (congr 1; omega) | omega)) ?_)
      refine ⟨by simp only [evs, hm]; exact hgk, k, 0, rfl, hkl, fun _ => by omega, fun y c st hc hp => ⟨fun _ => ?_, fun h => absurd rfl h⟩⟩
      rw [hak y c st hc hp]
      exact accept_pop _ _ _ _ (show (i : Int) = x.n by omega)

set_option maxHeartbeats 2000000 in
theorem check16 (b off cap : Nat) (l : List Nd) (hok : ∀ x ∈ l, x.ok ∧ x.text.length ≤ 9223372036854775807) (hl : l.length ≤ 100000) (m : Mem) (hN : Nodes m b off l) (hbn : b < m.next) (h0 : l ≠ []) :
    Runs evEnv 16 [.slice (some ⟨b, off, none⟩) l.length cap] m fun v m' => Grow m m' ∧ ∃ p e : Nat, v = .tuple ⟨[.int .i64 p, .int .i64 e]⟩ ∧ (e = 0 ↔ okProg l = true) := by
  have hpos : 0 < l.length := List.length_pos_iff.2 h0
  refine runs_start rfl rfl rfl rfl ?_
  (repeat (first | apply ewp_seq | apply eret_seq | apply ewp_skip | apply ewp_region | apply ewpO_nil | apply ewp_block | apply eret_block | apply ewp_exit | apply eret_seq_exit | apply eret_loop_exit | apply ewp_ret | apply eret_seq_ret | apply eret_block_ret | apply eret_loop_ret | apply ewp_label | apply g_T | apply g_F | ((first | apply g_cond | apply g_block | apply g_regionD | apply g_guard | apply g_guard0 | apply g_move | apply g_assign | apply g_load | apply g_bin | apply g_un | apply g_pick | apply g_nil | apply g_nil0 | apply g_fieldAddr | apply g_indexAddr | apply g_indexS | apply g_field | apply g_len | apply g_max | apply g_min | apply g_extract | apply g_sliceHi | apply g_build | apply g_box | apply g_new | apply g_buildSlice | apply g_makeMap | fail) <;> (first | exact Rf.mk | (apply Ev.mk; (simp only [evs, Nat.reduceEqDiff, reduceIte] <;> rfl)) | (apply Dn.mk; (simp only [evs, Nat.reduceEqDiff, reduceIte] <;> rfl)) | apply g_wpO | (apply Cp.bin; (focus constructor); first | with_reducible exact Dc.r | with_reducible exact Dc.s | (apply Dc.t; first | with_reducible assumption | omega | fail) | (apply Dc.f; first | with_reducible assumption | omega | fail) | fail) | (apply n_add; (focus (first | (with_reducible (first | exact nadd1 _ | exact nadd2 _ | exact nadd3 _ | exact nladd1 _ | exact nladd2 _ | exact nladd3 _ | exact nadd _ _ | fail)) | rfl | fail)); omega) | (apply n_sub; (focus (first | (with_reducible first | exact nsub1 _ (by omega) | exact nsub _ _ (by omega) | fail) | rfl | fail)); omega) | ((first | apply n_peq | apply n_pne | fail); exact Rf.mk; exact Rf.mk) | (apply Ld.mk; (try simp only [evs]); first | rfl | fail) | apply g_wp | apply g_ret | apply g_sel | (apply Om.mk; omega) | ((repeat (first | exact Evp.nil | (apply Evp.cons; (focus (apply Ev.mk; (simp only [evs, Nat.reduceEqDiff, reduceIte] <;> rfl))))));done) | (apply Hy.mk; assumption) | (apply Kr.mk; kernel_rfl) | fail)) | fail))
  ((first | apply g_run | apply g_run0 | fail) <;> (first | exact Rf.mk | (apply Ev.mk; (simp only [evs, Nat.reduceEqDiff, reduceIte] <;> rfl)) | (apply Dn.mk; (simp only [evs, Nat.reduceEqDiff, reduceIte] <;> rfl)) | apply g_wpO | (apply Cp.bin; (focus constructor); first | with_reducible exact Dc.r | with_reducible exact Dc.s | (apply Dc.t; first | with_reducible assumption | omega | fail) | (apply Dc.f; first | with_reducible assumption | omega | fail) | fail) | (apply n_add; (focus (first | (with_reducible (first | exact nadd1 _ | exact nadd2 _ | exact nadd3 _ | exact nladd1 _ | exact nladd2 _ | exact nladd3 _ | exact nadd _ _ | fail)) | rfl | fail)); omega) | (apply n_sub; (focus (first | (with_reducible first | exact nsub1 _ (by omega) | exact nsub _ _ (by omega) | fail) | rfl | fail)); omega) | ((first | apply n_peq | apply n_pne | fail); exact Rf.mk; exact Rf.mk) | (apply Ld.mk; (try simp only [evs]); first | rfl | fail) | apply g_wp | apply g_ret | apply g_sel | (apply Om.mk; omega) | ((repeat (first | exact Evp.nil | (apply Evp.cons; (focus (apply Ev.mk; (simp only [evs, Nat.reduceEqDiff, reduceIte] <;> rfl))))));done) | (apply Hy.mk; assumption) | (apply Kr.mk; kernel_rfl) | ((repeat (first | exact Evl.nil | (apply Evl.cons; (focus (apply Ev.mk; (simp only [evs, Nat.reduceEqDiff, reduceIte] <;> rfl))))));done) | exact Rn.mk (check33 b off cap l hok hl _ 0 0 _ (Nat.le_refl _) (Nat.zero_le _) (by omega) (by simp only [evs]; exact hN) (by simp only [evs]; exact hbn)) | apply Cn.mk | fail))
  rintro v m2 ⟨hg, p, e, rfl, hpl, hlt, hch⟩
  simp only [evs] at hg
  have hc := hch root 0 [] (by decide) rfl
  rw [List.drop_zero] at hc
  by_cases he : e = 0
  · subst he
    have hc1 : okProg l = accept (l.drop p) [(root, 1)] := hc.1 rfl
    rcases Nat.lt_or_ge p l.length with hlt2 | hge
    · (repeat (first | apply ewp_seq | apply eret_seq | apply ewp_skip | apply ewp_region | apply ewpO_nil | apply ewp_block | apply eret_block | apply ewp_exit | apply eret_seq_exit | apply eret_loop_exit | apply ewp_ret | apply eret_seq_ret | apply eret_block_ret | apply eret_loop_ret | apply ewp_label | apply g_T | apply g_F | ((first | apply g_cond | apply g_block | apply g_regionD | apply g_guard | apply g_guard0 | apply g_move | apply g_assign | apply g_load | apply g_bin | apply g_un | apply g_pick | apply g_nil | apply g_nil0 | apply g_fieldAddr | apply g_indexAddr | apply g_indexS | apply g_field | apply g_len | apply g_max | apply g_min | apply g_extract | apply g_sliceHi | apply g_build | apply g_box | apply g_new | apply g_buildSlice | apply g_makeMap | fail) <;> (first | exact Rf.mk | (apply Ev.mk; (simp only [evs, Nat.reduceEqDiff, reduceIte] <;> rfl)) | (apply Dn.mk; (simp only [evs, Nat.reduceEqDiff, reduceIte] <;> rfl)) | apply g_wpO | (apply Cp.bin; (focus constructor); first | with_reducible exact Dc.r | with_reducible exact Dc.s | (apply Dc.t; first | with_reducible assumption | omega | fail) | (apply Dc.f; first | with_reducible assumption | omega | fail) | fail) | (apply n_add; (focus (first | (with_reducible (first | exact nadd1 _ | exact nadd2 _ | exact nadd3 _ | exact nladd1 _ | exact nladd2 _ | exact nladd3 _ | exact nadd _ _ | fail)) | rfl | fail)); omega) | (apply n_sub; (focus (first | (with_reducible first | exact nsub1 _ (by omega) | exact nsub _ _ (by omega) | fail) | rfl | fail)); omega) | ((first | apply n_peq | apply n_pne | fail); exact Rf.mk; exact Rf.mk) | (apply Ld.mk; (try simp only [evs]); first | rfl | fail) | apply g_wp | apply g_ret | apply g_sel | (apply Om.mk; omega) | ((repeat (first | exact Evp.nil | (apply Evp.cons; (focus (apply Ev.mk; (simp only [evs, Nat.reduceEqDiff, reduceIte] <;> rfl))))));done) | (apply Hy.mk; assumption) | (apply Kr.mk; kernel_rfl) | fail)) | fail))
      (refine g_fin (by repeat (first | exact Rs.nil | (apply Rs.cons; (focus (apply Ev.mk; (simp only [evs, Nat.reduceEqDiff, reduceIte] <;> rfl)))))) (by (simp only [evs, Nat.reduceEqDiff, reduceIte] <;> first | rfl | (congr 1; omega) | omega)) ?_)
      refine ⟨by simp only [evs]; exact hg, p, 6, rfl, ?_⟩
      rw [hc1, List.drop_eq_getElem_cons hlt2, accept_pop _ _ _ _ (show ((1 : Nat) : Int) = root.n from rfl)]
      simp [accept, pop]
    · (repeat (first | apply ewp_seq | apply eret_seq | apply ewp_skip | apply ewp_region | apply ewpO_nil | apply ewp_block | apply eret_block | apply ewp_exit | apply eret_seq_exit | apply eret_loop_exit | apply ewp_ret | apply eret_seq_ret | apply eret_block_ret | apply eret_loop_ret | apply ewp_label | apply g_T | apply g_F | ((first | apply g_cond | apply g_block | apply g_regionD | apply g_guard | apply g_guard0 | apply g_move | apply g_assign | apply g_load | apply g_bin | apply g_un | apply g_pick | apply g_nil | apply g_nil0 | apply g_fieldAddr | apply g_indexAddr | apply g_indexS | apply g_field | apply g_len | apply g_max | apply g_min | apply g_extract | apply g_sliceHi | apply g_build | apply g_box | apply g_new | apply g_buildSlice | apply g_makeMap | fail) <;> (first | exact Rf.mk | (apply Ev.mk; (simp only [evs, Nat.reduceEqDiff, reduceIte] <;> rfl)) | (apply Dn.mk; (simp only [evs, Nat.reduceEqDiff, reduceIte] <;> rfl)) | apply g_wpO | (apply Cp.bin; (focus constructor); first | with_reducible exact Dc.r | with_reducible exact Dc.s | (apply Dc.t; first | with_reducible assumption | omega | fail) | (apply Dc.f; first | with_reducible assumption | omega | fail) | fail) | (apply n_add; (focus (first | (with_reducible (first | exact nadd1 _ | exact nadd2 _ | exact nadd3 _ | exact nladd1 _ | exact nladd2 _ | exact nladd3 _ | exact nadd _ _ | fail)) | rfl | fail)); omega) | (apply n_sub; (focus (first | (with_reducible first | exact nsub1 _ (by omega) | exact nsub _ _ (by omega) | fail) | rfl | fail)); omega) | ((first | apply n_peq | apply n_pne | fail); exact Rf.mk; exact Rf.mk) | (apply Ld.mk; (try simp only [evs]); first | rfl | fail) | apply g_wp | apply g_ret | apply g_sel | (apply Om.mk; omega) | ((repeat (first | exact Evp.nil | (apply Evp.cons; (focus (apply Ev.mk; (simp only [evs, Nat.reduceEqDiff, reduceIte] <;> rfl))))));done) | (apply Hy.mk; assumption) | (apply Kr.mk; kernel_rfl) | fail)) | fail))
      (refine g_fin (by repeat (first | exact Rs.nil | (apply Rs.cons; (focus (apply Ev.mk; (simp only [evs, Nat.reduceEqDiff, reduceIte] <;> rfl)))))) (by (simp only [evs, Nat.reduceEqDiff, reduceIte] <;> first | rfl | (congr 1; omega) | omega)) ?_)
      refine ⟨by simp only [evs]; exact hg, 0, 0, rfl, ?_⟩
      rw [hc1, List.drop_of_length_le hge, accept_pop _ _ _ _ (show ((1 : Nat) : Int) = root.n from rfl)]
      simp [accept, pop]
  · have hc2 : okProg l = false := hc.2 he
    (repeat (first | apply ewp_seq | apply eret_seq | apply ewp_skip | apply ewp_region | apply ewpO_nil | apply ewp_block | apply eret_block | apply ewp_exit | apply eret_seq_exit | apply eret_loop_exit | apply ewp_ret | apply eret_seq_ret | apply eret_block_ret | apply eret_loop_ret | apply ewp_label | apply g_T | apply g_F | ((first | apply g_cond | apply g_block | apply g_regionD | apply g_guard | apply g_guard0 | apply g_move | apply g_assign | apply g_load | apply g_bin | apply g_un | apply g_pick | apply g_nil | apply g_nil0 | apply g_fieldAddr | apply g_indexAddr | apply g_indexS | apply g_field | apply g_len | apply g_max | apply g_min | apply g_extract | apply g_sliceHi | apply g_build | apply g_box | apply g_new | apply g_buildSlice | apply g_makeMap | fail) <;> (first | exact Rf.mk | (apply Ev.mk; (simp only [evs, Nat.reduceEqDiff, reduceIte] <;> rfl)) | (apply Dn.mk; (simp only [evs, Nat.reduceEqDiff, reduceIte] <;> rfl)) | apply g_wpO | (apply Cp.bin; (focus constructor); first | with_reducible exact Dc.r | with_reducible exact Dc.s | (apply Dc.t; first | with_reducible assumption | omega | fail) | (apply Dc.f; first | with_reducible assumption | omega | fail) | fail) | (apply n_add; (focus (first | (with_reducible (first | exact nadd1 _ | exact nadd2 _ | exact nadd3 _ | exact nladd1 _ | exact nladd2 _ | exact nladd3 _ | exact nadd _ _ | fail)) | rfl | fail)); omega) | (apply n_sub; (focus (first | (with_reducible first | exact nsub1 _ (by omega) | exact nsub _ _ (by omega) | fail) | rfl | fail)); omega) | ((first | apply n_peq | apply n_pne | fail); exact Rf.mk; exact Rf.mk) | (apply Ld.mk; (try simp only [evs]); first | rfl | fail) | apply g_wp | apply g_ret | apply g_sel | (apply Om.mk; omega) | ((repeat (first | exact Evp.nil | (apply Evp.cons; (focus (apply Ev.mk; (simp only [evs, Nat.reduceEqDiff, reduceIte] <;> rfl))))));done) | (apply Hy.mk; assumption) | (apply Kr.mk; kernel_rfl) | fail)) | fail))
    (refine g_fin (by repeat (first | exact Rs.nil | (apply Rs.cons; (focus (apply Ev.mk; (simp only [evs, Nat.reduceEqDiff, reduceIte] <;> rfl)))))) (by (simp only [evs, Nat.reduceEqDiff, reduceIte] <;> first | rfl | (congr 1; omega) | omega)) ?_)
    refine ⟨by simp only [evs]; exact hg, p, e, rfl, ?_⟩
    rw [hc2]
    simp [he]
end Go.Proofs.YthhcnfgeacnfiaaGreatDoor

namespace Go.Proofs.YthhcnfgeacnfiaaGreatDoor
open Go Go.Ev
set_option linter.unusedVariables false
set_option maxRecDepth 100000

/-- both ask the same of a node. -/
theorem ok_same (x : Nd) (h1 : 1 ≤ x.kind) (h2 : x.kind ≤ 32) : (okN x && rightB x) = okR x := by
  obtain ⟨kind, n, text, num, pos⟩ := x
  simp only at h1 h2
  revert n text num pos
  refine kinds h1 h2 (P := fun kind => ∀ (n : Int) (text : List UInt8) (num pos : Int), (okN ⟨kind, n, text, num, pos⟩ && rightB ⟨kind, n, text, num, pos⟩) = okR ⟨kind, n, text, num, pos⟩) ?_ ?_ ?_ ?_ ?_ ?_ ?_ ?_ ?_ ?_ ?_ ?_ ?_ ?_ ?_ ?_ ?_ ?_ ?_ ?_ ?_ ?_ ?_ ?_ ?_ ?_ ?_ ?_ ?_ ?_ ?_ ?_
  all_goals
    intro n text num pos
    simp [okN, fixedL, rightB, okR, countB, fieldsB]
  all_goals first
    | (intros; omega)
    | (by_cases h : n ≤ 2 <;> simp only [h, if_true, if_false] <;> rw [Bool.eq_iff_iff] <;> simp <;> omega)
    | (by_cases h : n ≤ 0 <;> simp only [h, if_true, if_false] <;> rw [Bool.eq_iff_iff] <;> simp <;> omega)
    | (cases nameB text <;> rw [Bool.eq_iff_iff] <;> simp <;> omega)

theorem place_many (x : Nd) (h : fixedL x = none) (h1 : 1 ≤ x.kind) (h2 : x.kind ≤ 32) (i : Nat) : placeN x.kind x.n i = placeR x i := by
  obtain ⟨kind, n, text, num, pos⟩ := x
  simp only at h1 h2
  revert h
  refine kinds h1 h2 (P := fun kind => fixedL ⟨kind, n, text, num, pos⟩ = none → placeN kind n i = placeR ⟨kind, n, text, num, pos⟩ i) ?_ ?_ ?_ ?_ ?_ ?_ ?_ ?_ ?_ ?_ ?_ ?_ ?_ ?_ ?_ ?_ ?_ ?_ ?_ ?_ ?_ ?_ ?_ ?_ ?_ ?_ ?_ ?_ ?_ ?_ ?_ ?_
  all_goals
    intro h
    first
    | (simp [fixedL] at h; done)
    | (exfalso; by_cases hn : n ≤ 2 <;> simp [fixedL, hn] at h; done)
    | (exfalso; by_cases hn : n ≤ 0 <;> simp [fixedL, hn] at h; done)
    | (simp [placeN, placeR]; done)
    | (simp [placeN, placeR])
theorem place_few (x : Nd) (ks : List Nat) (h : fixedL x = some ks) (h1 : 1 ≤ x.kind) (h2 : x.kind ≤ 32) (i : Nat) (hi : i < ks.length) : ks[i] = placeR x i := by
  obtain ⟨kind, n, text, num, pos⟩ := x
  simp only at h1 h2
  revert h
  refine kinds h1 h2 (P := fun kind => fixedL ⟨kind, n, text, num, pos⟩ = some ks → ks[i] = placeR ⟨kind, n, text, num, pos⟩ i) ?_ ?_ ?_ ?_ ?_ ?_ ?_ ?_ ?_ ?_ ?_ ?_ ?_ ?_ ?_ ?_ ?_ ?_ ?_ ?_ ?_ ?_ ?_ ?_ ?_ ?_ ?_ ?_ ?_ ?_ ?_ ?_
  all_goals
    intro h
    first
    | (simp [fixedL] at h; done)
    | (simp [fixedL] at h; subst h; rcases i with _ | _ | _ | i <;> first | (simp [placeR]; done) | (simp at hi; done) | (simp at hi; omega))
    | (simp [fixedL] at h; split at h <;> (cases h; rcases i with _ | _ | _ | i <;> first | (simp [placeR]; done) | (simp at hi; done) | (simp at hi; omega)))
end Go.Proofs.YthhcnfgeacnfiaaGreatDoor

namespace Go.Proofs.YthhcnfgeacnfiaaGreatDoor
open Go Go.Ev
set_option linter.unusedVariables false
set_option maxRecDepth 100000

/-- one that waits: its node, what it is made of as a slice, how many were there. -/
structure WE where
  x : Nd
  lv : Value
  c : Nat
  du : Du
def WE.enc (w : WE) : List Value := w.x.val ++ [w.lv, .int .i64 w.c]
def WE.dc (w : WE) : Du × Nat := (w.du, w.c)
theorem enc_len (w : WE) : w.enc.length = 7 := rfl

/-- what a waiting one's slice says is what its rule says. -/
def PL (m : Mem) (w : WE) : Prop :=
  w.x.n = w.du.n ∧ (w.c : Int) ≤ w.x.n ∧ w.x.n ≤ 9223372036854775807 ∧ oneCell w.lv = true ∧ (∀ c : Nat, (c : Int) < w.x.n → w.du.pl c ≤ 7) ∧
  ((w.lv = .slice none 0 0 ∧ ∀ c : Nat, (c : Int) < w.x.n → placeN w.x.kind w.x.n c = w.du.pl c) ∨
   ∃ (kb cap : Nat) (ks : List Nat) (r : List Value), w.lv = .slice (some ⟨kb, 0, none⟩) ks.length cap ∧ Row m kb r 3 0 ∧ (∀ (i : Nat) (h : i < ks.length), r[i]? = some (.int .i64 ks[i])) ∧ w.x.n = ks.length ∧ ∀ (i : Nat) (h : i < ks.length), ks[i] = w.du.pl i)

theorem PL.keep {m m' : Mem} {w : WE} {wb : Nat} {r : List Value} (h : PL m w) (hr : Row m wb r 91 0) (hn : m.next ≤ m'.next) (hg : ∀ b, b ≠ wb → b < m.next → m'.get b = m.get b) : PL m' w := by
  obtain ⟨h1, h2, h3, h4, h5, h6⟩ := h
  refine ⟨h1, h2, h3, h4, h5, ?_⟩
  rcases h6 with h6 | ⟨kb, cap, ks, rk, e1, e2, e3, e4, e5⟩
  · exact .inl h6
  · exact .inr ⟨kb, cap, ks, rk, e1, e2.keep hn (hg kb (e2.ne hr (by decide)) e2.1), e3, e4, e5⟩
theorem PL.grow {m m' : Mem} {w : WE} (h : PL m w) (g : Grow m m') : PL m' w := by
  obtain ⟨h1, h2, h3, h4, h5, h6⟩ := h
  refine ⟨h1, h2, h3, h4, h5, ?_⟩
  rcases h6 with h6 | ⟨kb, cap, ks, rk, e1, e2, e3, e4, e5⟩
  · exact .inl h6
  · exact .inr ⟨kb, cap, ks, rk, e1, e2.grow g, e3, e4, e5⟩

theorem flat_get : ∀ (rs : List WE) (j f : Nat) (hj : j < rs.length) (hf : f < 7), (rs.flatMap WE.enc)[j * 7 + f]? = (rs[j].enc)[f]?
  | w :: rs, 0, f, hj, hf => by
    rw [List.flatMap_cons, List.getElem?_append_left (by rw [enc_len]; omega)]; simp
  | w :: rs, j + 1, f, hj, hf => by
    rw [List.flatMap_cons, List.getElem?_append_right (by rw [enc_len]; omega), enc_len, show (j + 1) * 7 + f - 7 = j * 7 + f by omega]
    have := flat_get rs j f (by simpa using hj) hf
    simpa using this
theorem flat_len : ∀ (rs : List WE), (rs.flatMap WE.enc).length = rs.length * 7
  | [] => rfl
  | w :: rs => by rw [List.flatMap_cons, List.length_append, enc_len, flat_len rs, List.length_cons]; omega

/-- those that wait, the last one first, in a block. -/
def Stk (m : Mem) (wb cap : Nat) (st : List WE) : Prop := ∃ r, Row m wb r 91 0 ∧ r.length = cap * 7 ∧ st.length ≤ cap ∧ r.take (st.length * 7) = st.reverse.flatMap WE.enc

theorem Stk.get {m : Mem} {wb cap : Nat} {st : List WE} (h : Stk m wb cap st) : ∃ r, Row m wb r 91 0 ∧ r.length = cap * 7 ∧ ∀ (j f : Nat) (hj : j < st.reverse.length), f < 7 → r[j * 7 + f]? = (st.reverse[j].enc)[f]? := by
  obtain ⟨r, h1, h2, h3, h4⟩ := h
  refine ⟨r, h1, h2, fun j f hj hf => ?_⟩
  have hj' : j < st.length := by simpa using hj
  rw [← flat_get _ j f hj hf, ← h4, List.getElem?_take_of_lt (by omega)]
theorem Stk.top {m : Mem} {wb cap : Nat} {w : WE} {st : List WE} (h : Stk m wb cap (w :: st)) : ∃ r, Row m wb r 91 0 ∧ r.length = cap * 7 ∧ st.length * 7 + 7 ≤ r.length ∧ ∀ f, f < 7 → r[0 + st.length * 7 + f]? = (w.enc)[f]? := by
  obtain ⟨r, h1, h2, h3⟩ := h.get
  obtain ⟨_, _, _, h4, _⟩ := h
  refine ⟨r, h1, h2, by simp only [List.length_cons] at h4; omega, fun f hf => ?_⟩
  have := h3 st.length f (by simp) hf
  rw [Nat.zero_add, this]
  congr 2
  simp
theorem Stk.pop {m : Mem} {wb cap : Nat} {w : WE} {st : List WE} (h : Stk m wb cap (w :: st)) : Stk m wb cap st := by
  obtain ⟨r, h1, h2, h3, h4⟩ := h
  simp only [List.length_cons] at h3 h4
  refine ⟨r, h1, h2, by omega, ?_⟩
  have : r.take (st.length * 7) = (r.take ((st.length + 1) * 7)).take (st.length * 7) := by rw [List.take_take]; congr 1; omega
  rw [this, h4, List.reverse_cons, List.flatMap_append, List.take_append_of_le_length (by rw [flat_len]; simp), List.take_of_length_le (by rw [flat_len]; simp)]
theorem Stk.keep {m m' : Mem} {wb cap : Nat} {st : List WE} (h : Stk m wb cap st) (hn : m.next ≤ m'.next) (hg : m'.get wb = m.get wb) : Stk m' wb cap st := by
  obtain ⟨r, h1, h2, h3, h4⟩ := h
  exact ⟨r, h1.keep hn hg, h2, h3, h4⟩
theorem Stk.grow {m m' : Mem} {wb cap : Nat} {st : List WE} (h : Stk m wb cap st) (g : Grow m m') : Stk m' wb cap st := by
  obtain ⟨r, h1, h2, h3, h4⟩ := h
  exact ⟨r, h1.grow g, h2, h3, h4⟩
/-- one more was there. -/
theorem Stk.more {m : Mem} {wb cap : Nat} {w : WE} {st : List WE} (h : Stk m wb cap (w :: st)) :
    ∃ m', storeAt evEnv m 3 wb (0 + st.length * 7 + 6) (.int .i64 ((w.c + 1 : Nat) : Int)) = some m' ∧ Stk m' wb cap ({ w with c := w.c + 1 } :: st) ∧ (∀ b, b ≠ wb → m'.get b = m.get b) ∧ m'.next = m.next := by
  obtain ⟨r, h1, h2, h3, h4⟩ := h
  simp only [List.length_cons] at h3 h4
  obtain ⟨m', e1, e2, e3, e4⟩ := h1.store (E := evEnv) (t := 3) (o := 0 + st.length * 7 + 6) (k := 1) (v := .int .i64 ((w.c + 1 : Nat) : Int)) (by decide) rfl rfl rfl (by omega) rfl
  refine ⟨m', e1, ⟨_, e2, by rw [put_length, h2], by simp only [List.length_cons]; omega, ?_⟩, e3, e4⟩
  simp only [List.length_cons, cellsOf, put]
  rw [List.take_set, h4, List.reverse_cons, List.reverse_cons, List.flatMap_append, List.flatMap_append]
  have hl : (st.reverse.flatMap WE.enc).length = st.length * 7 := by rw [flat_len]; simp
  rw [List.set_append_right _ _ (by omega), hl, show 0 + st.length * 7 + 6 - st.length * 7 = 6 by omega]
  rfl
/-- one that waits, behind the others. -/
theorem Stk.push {m : Mem} {wb cap : Nat} {st : List WE} (h : Stk m wb cap st) (w : WE) (hw : oneCell w.lv = true) (hs : st.length ≤ 1000000) :
    ∃ wb' cap' m', effect.append m 91 7 80 (.slice (some ⟨wb, 0, none⟩) st.length cap) 1 w.enc = some (.slice (some ⟨wb', 0, none⟩) (st.length + 1) cap', m') ∧ Stk m' wb' cap' (w :: st) ∧ (∀ b, b ≠ wb → b < m.next → m'.get b = m.get b) ∧ m.next ≤ m'.next ∧ (wb' = wb ∨ wb' = m.next) := by
  obtain ⟨r, h1, h2, h3, h4⟩ := h
  obtain ⟨wb', cap', m', r', e1, e2, e3, e4, e5, e6, e7, e8⟩ := append_row (bytes := 80) (k := 1) (new := w.enc) h1 h2 h3 rfl (by unfold oneCell at hw; simp [WE.enc, Nd.val, oneCell]; exact hw) (by omega) (by omega) (by omega)
  refine ⟨wb', cap', m', e1, ⟨r', e2, e3, by simpa using e4, ?_⟩, e6, e7, e8⟩
  rw [List.length_cons, e5, h4, List.reverse_cons, List.flatMap_append]
  simp

theorem pop_empty : ∀ (st : List (Du × Nat)), (pop st).isEmpty = true ↔ ∀ q ∈ st, (q.2 : Int) = q.1.n
  | [] => by simp [pop]
  | (x, c) :: st => by
    simp only [pop]
    by_cases h : (c : Int) = x.n
    · rw [if_pos h, pop_empty st]; simp [h]
    · rw [if_neg h]; simp [h]

/-- what places answers makes one that waits. -/
theorem PL.of {m : Mem} {x : Nd} {lv : Value} (h : LV m lv (fixedL x)) (hk1 : 1 ≤ x.kind) (hk2 : x.kind ≤ 32) (ho : okN x = true) (hr : okR x = true) (hn : x.n ≤ 9223372036854775807) :
    (lv = .slice none 0 0 ∨ ∃ kb n c, lv = .slice (some ⟨kb, 0, none⟩) n c) ∧ PL m ⟨x, lv, 0, x.du⟩ := by
  have hcnt : countB x = true := by unfold okR at hr; exact (Bool.and_eq_true_iff.1 hr).1
  have h0 := count_pos hcnt
  have hle : ∀ c : Nat, (c : Int) < x.n → x.du.pl c ≤ 7 := fun c hc => placeR_le hcnt c hc
  cases hf : fixedL x with
  | none =>
    rw [hf] at h
    obtain rfl : lv = .slice none 0 0 := h
    exact ⟨.inl rfl, rfl, h0, hn, rfl, hle, .inl ⟨rfl, fun c _ => place_many x hf hk1 hk2 c⟩⟩
  | some ks =>
    rw [hf] at h
    have hnk : x.n = ks.length := by
      unfold okN at ho
      rw [hf] at ho
      exact of_decide_eq_true ho
    rcases h with ⟨rfl, rfl⟩ | ⟨kb, cap, r, rfl, hrow, hget⟩
    · refine ⟨.inl rfl, rfl, h0, hn, rfl, hle, .inl ⟨rfl, fun c hc => ?_⟩⟩
      have hc' : (c : Int) < x.n := hc
      simp only [List.length_nil] at hnk
      omega
    · exact ⟨.inr ⟨kb, _, cap, rfl⟩, rfl, h0, hn, rfl, hle, .inr ⟨kb, cap, ks, r, rfl, hrow, hget, hnk, fun i hi => place_few x ks hf hk1 hk2 i hi⟩⟩
theorem LV.grow {m m' : Mem} {lv : Value} {o : Option (List Nat)} (h : LV m lv o) (g : Grow m m') : LV m' lv o := by
  cases o with
  | none => exact h
  | some ks =>
    rcases h with h | ⟨kb, cap, r, e1, e2, e3⟩
    · exact .inl h
    · exact .inr ⟨kb, cap, r, e1, e2.grow g, e3⟩
end Go.Proofs.YthhcnfgeacnfiaaGreatDoor
