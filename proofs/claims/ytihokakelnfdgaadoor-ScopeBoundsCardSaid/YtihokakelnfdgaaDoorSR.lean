/- Part of a verified evaluator of the model's programs and of runs by it: PF. -/
import Derived.Test.YtihokakelnfdgaaDoorSQ
import Derived.Test.YtihokakelnfdgaaDoorSM
namespace Go.Proofs.YtihokakelnfdgaaDoor
open Go Go.Ev
set_option maxRecDepth 100000
set_option linter.unusedVariables false
set_option linter.unusedSimpArgs false
set_option pp.maxSteps 1500

/-! How the law makes these texts. -/
def v7T : Bs := [32, 118, 97, 114, 32, 122, 113]
def e5T : Bs := [32, 61, 32, 49, 59]
def preT : Nat → Bs
 | 0 => [102, 110, 32, 102, 40, 41, 32, 123]
 | i + 1 => preT i ++ v7T ++ [zqa i, zqb i] ++ e5T
theorem preT_len : ∀ i, (preT i).length = 8 + 14 * i
 | 0 => rfl
 | i + 1 => by
  rw [preT, List.length_append, List.length_append, List.length_append, preT_len i]
  show 8 + 14 * i + 7 + 2 + 5 = _; omega
theorem preT_tail : ∀ (k i : Nat), preT i ++ 32 :: tailT i k = preT (i + k) ++ [32, 125]
 | 0, i => rfl
 | k + 1, i => by
  rw [show i + (k + 1) = i + 1 + k by omega, ← preT_tail k (i + 1), preT]
  simp only [List.append_assoc]
  rfl
theorem preT_src (n : Nat) : preT n ++ [32, 125] = srcT n := by
 have := preT_tail n 0
 rw [Nat.zero_add] at this
 exact this.symm
theorem cells_bytes : ∀ (r : List UInt8), (cellsOfBytes r).length = r.length ∧ ∀ (i : Nat) (x : UInt8), r[i]? = some x → (cellsOfBytes r)[i]? = some (Value.int .u8 (x.toNat : Nat))
 | [] => ⟨rfl, fun i x h => by simp at h⟩
 | b :: l => ⟨by rw [cellsOfBytes, List.length_cons, List.length_cons, (cells_bytes l).1], fun i x h => by
  cases i with
  | zero => simp at h; subst h; rfl
  | succ i => rw [cellsOfBytes, List.getElem?_cons_succ]; exact (cells_bytes l).2 i x (by simpa using h)⟩
theorem bts_new (m : Mem) (r : List UInt8) : Bts (m.new (.cells (cellsOfBytes r).length (ofListFrom .leaf 0 (cellsOfBytes r)) 5 2)) m.next 0 r := by
 obtain ⟨h1, c, h2, h3⟩ := row_new m (cellsOfBytes r) 5 2
 refine ⟨h1, _, _, _, _, mget_new _ _, by rw [(cells_bytes r).1]; omega, fun i x hx => ?_⟩
 have hi := (List.getElem?_eq_some_iff.1 hx).1
 rw [get_ofList, if_pos ⟨Nat.zero_le _, by rw [(cells_bytes r).1]; omega⟩, show 0 + i - 0 = i by omega]
 exact (cells_bytes r).2 i x hx
theorem n_rem26 {m : Mem} {t : TypeId} (i : Nat) : Bn evEnv m .rem t (I i) (I 26) (I (i % 26 : Nat)) := .mk (by
 show (if (26 : Int) = 0 then none else some (Value.int .i64 ((i : Int).tmod 26))) = _
 rw [if_neg (by decide)]; rfl)
theorem n_quo26 {m : Mem} {t : TypeId} (i : Nat) (hi : i < 600) : Bn evEnv m .quo t (I i) (I 26) (I (i / 26 : Nat)) := .mk (by
 show (if (26 : Int) = 0 then none else some (Value.int .i64 (IntKind.i64.wrap ((i : Int).tdiv 26)))) = _
 rw [if_neg (by decide)]
 have : ((i : Int).tdiv 26) = ((i / 26 : Nat) : Int) := rfl
 rw [this, show IntKind.i64.wrap ((i / 26 : Nat) : Int) = ((i / 26 : Nat) : Int) by unfold IntKind.wrap; simp [IntKind.bits, IntKind.signed]; omega])
theorem wrap8 {n : Nat} (h : n < 256) : IntKind.u8.wrap (n : Int) = (n : Int) := by
 unfold IntKind.wrap; simp [IntKind.bits, IntKind.signed]; omega
theorem decls_okx : ∀ (k i : Nat), i + k ≤ 600 → ∀ x ∈ decls i k, x.ok ∧ x.text.length ≤ 9223372036854775807
 | 0, i, h, x, hx => by cases hx
 | k + 1, i, h, x, hx => by
  rw [decls] at hx
  rcases List.mem_cons.1 hx with rfl | hx
  ·refine ⟨?_, show 4 ≤ _ by decide⟩
   unfold Nd.ok varN; simp only; omega
  ·rcases List.mem_cons.1 hx with rfl | hx
   ·refine ⟨?_, Nat.zero_le _⟩
    unfold Nd.ok intN; simp only; omega
   ·exact decls_okx k (i + 1) (by omega) x hx
theorem progN_okx {n : Nat} (h : n ≤ 600) : ∀ x ∈ progN n, x.ok ∧ x.text.length ≤ 9223372036854775807 := by
 intro x hx
 unfold progN at hx
 rcases List.mem_cons.1 hx with rfl | hx
 ·exact ⟨⟨by decide, by decide, by decide, by decide⟩, by decide⟩
 rcases List.mem_cons.1 hx with rfl | hx
 ·exact ⟨⟨by decide, by decide, by decide, by decide⟩, by decide⟩
 rcases List.mem_cons.1 hx with rfl | hx
 ·refine ⟨?_, Nat.zero_le _⟩
  unfold Nd.ok; simp only; omega
 ·exact decls_okx n 0 (by omega) x hx
theorem Sl.fn2 {X : Nat → Prop} {m : Mem} {v : Value} {cvs : List Value} {fs : List Fn} (h : Sl X m v 49 4 (encFns cvs fs)) (hc : cvs.length = fs.length) {i : Nat} (hi : i < fs.length) : ∃ b c, v = .slice (some ⟨b, 0, none⟩) fs.length c ∧ loadAt evEnv m 3 b (0 + i * 4 + 2) = some (I fs[i].slots) := by
 have hlen := encFns_len cvs fs hc
 obtain ⟨b, cap, r, n, z1, z2, z3, z4, z5, z6, z7⟩ := h.at (i := i * 4 + 2) (by omega)
 have hn : n = fs.length := by
  have := congrArg List.length z6
  rw [List.length_take] at this
  omega
 subst hn
 refine ⟨b, cap, z1, z3.load1 rfl rfl ?_⟩
 rw [show 0 + i * 4 + 2 = i * 4 + 2 by omega, z7, encFns_get cvs fs i 2 _ _ (List.getElem?_eq_getElem (by omega)) (List.getElem?_eq_getElem hi) (by omega)]; rfl
attribute [local irreducible] quiet allocs effect wp ret wpO Runs Act.tmp Act.eval fin results Tree.set binOp loadAt storeAt target wanted cellsFrom

theorem bounds5_out (i : Int) (h : i < 250 ∨ 260 < i) (m : Mem) : Runs evEnv 5 [I i] m fun v _ => v = .bool true := by
 refine runs_start rfl rfl rfl rfl ?_
 rcases h with h | h
 case' inl =>
  (repeat (first | (apply G.h; constructor <;> (first | exact Zc | apply gI | ((repeat' (first | exact Y0 | apply Y1 | ((first | apply Y4 | apply Y5); simp only [evs, Nat.reduceEqDiff, reduceIte] <;> rfl))); done) | (apply Y6; (try simp only [evs]); first | rfl)))))
 case' inr =>
  have h' : ¬ i < 250 := by omega
  (repeat (first | (apply G.h; constructor <;> (first | exact Zc | apply gI | ((repeat' (first | exact Y0 | apply Y1 | ((first | apply Y4 | apply Y5); simp only [evs, Nat.reduceEqDiff, reduceIte] <;> rfl))); done) | (apply Y6; (try simp only [evs]); first | rfl)))))
 all_goals
  ((first | apply g_run | apply g_run0) <;> (first | ((repeat' (first | exact Y0 | apply Y1 | exact Y2 | apply Y3 | ((first | apply Y4 | apply Y5); simp only [evs, Nat.reduceEqDiff, reduceIte] <;> rfl))); done) | exact Rn.mk (live10 _) | apply Cn.mk))
  rintro v m5 ⟨rfl, rfl⟩
  (repeat (first | (apply G.h; constructor <;> (first | exact Zc | apply gI | ((repeat' (first | exact Y0 | apply Y1 | ((first | apply Y4 | apply Y5); simp only [evs, Nat.reduceEqDiff, reduceIte] <;> rfl))); done) | (apply Y6; (try simp only [evs]); first | rfl)))))
  (refine g_fin (by repeat' first | exact Rs.nil | apply Rs.cons | (apply Y4; simp only [evs, Nat.reduceEqDiff, reduceIte] <;> rfl)) (by (simp only [evs, Nat.reduceEqDiff, reduceIte] <;> first | rfl | (congr 1; omega) | omega)) ?_)
  rfl
set_option maxHeartbeats 4000000 in
theorem bounds5 (n : Nat) (h1 : 250 ≤ n) (h2 : n ≤ 260) (m : Mem) (hNm : Names m) (h0 : 0 < m.next) : Runs evEnv 5 [I n] m fun v _ => v = .bool true := by
 refine runs_start rfl rfl rfl rfl ?_
 (repeat (first | (apply G.h; constructor <;> (first | exact Zc | apply gI | ((repeat' (first | exact Y0 | apply Y1 | ((first | apply Y4 | apply Y5); simp only [evs, Nat.reduceEqDiff, reduceIte] <;> rfl))); done) | (apply Y6; (try simp only [evs]); first | rfl)))))
 refine ewp_loop (ι := Nat) (fun i a => (a.n = 92 ∧ a.defers = [] ∧ a.tmp 0 = I n ∧ a.tmp 3 = encS (preT i) ∧ a.tmp 4 = I i) ∧ i ≤ n ∧ Grow m a.m) (fun i => n - i) 0 ?_ ?_
 ·exact ⟨(by refine ⟨?_, ?_, ?_, ?_, ?_⟩ <;> (simp only [evs, Nat.reduceEqDiff, reduceIte] <;> first | rfl | (congr 1; omega) | omega)), Nat.zero_le _, by simp only [evs]; exact Grow.refl m⟩
 rintro i a ⟨⟨qn, qd, q0, q3, q4⟩, hi, qg⟩ ih
 have hpl := preT_len i
 rcases Nat.lt_or_ge i n with hlt | hge
 ·have c1 : (preT i).length + v7T.length ≤ 4611686018427387904 := by show (preT i).length + 7 ≤ _; omega
  have c2 : (preT i ++ v7T).length + [zqa i, zqb i].length ≤ 4611686018427387904 := by rw [List.length_append]; show (preT i).length + 7 + 2 ≤ _; omega
  have c3 : (preT i ++ v7T ++ [zqa i, zqb i]).length + e5T.length ≤ 4611686018427387904 := by rw [List.length_append, List.length_append]; show (preT i).length + 7 + 2 + 5 ≤ _; omega
  have hmod := Nat.mod_lt i (show 0 < 26 by decide)
  obtain ⟨-, c, y1, y2⟩ := row_new a.m [.int .u8 ((97 + i % 26 : Nat) : Int), .int .u8 ((97 + i / 26 : Nat) : Int)] 5 0
  have p2 : Nat.ble (0 + 2) 2 = true := rfl
  have p3 : cellsFrom c 0 2 = some [.int .u8 ((97 + i % 26 : Nat) : Int), .int .u8 ((97 + i / 26 : Nat) : Int)] := cellsFrom_list 2 0 [.int .u8 ((97 + i % 26 : Nat) : Int), .int .u8 ((97 + i / 26 : Nat) : Int)] y2 (Nat.le_refl 2)
  have p4 : bytesOfCells [.int .u8 ((97 + i % 26 : Nat) : Int), .int .u8 ((97 + i / 26 : Nat) : Int)] = some [zqa i, zqb i] := rfl
  (repeat (first | (apply G.h; constructor <;> (first | exact Zc | apply gI | ((repeat' (first | exact Y0 | apply Y1 | ((first | apply Y4 | apply Y5); simp only [evs, Nat.reduceEqDiff, reduceIte, qn, qd, q0, q3, q4] <;> rfl))); done) | (apply Y6; (try simp only [evs, qn, qd, q0, q3, q4]); first | rfl)))))
  apply g_bin
  focus (apply Ev.mk; (simp only [evs, Nat.reduceEqDiff, reduceIte, qn, qd, q0, q3, q4] <;> rfl))
  focus (apply Ev.mk; (simp only [evs, Nat.reduceEqDiff, reduceIte, qn, qd, q0, q3, q4] <;> rfl))
  focus exact n_rem26 i
  focus (apply Dn.mk; (simp only [evs, Nat.reduceEqDiff, reduceIte, qn, qd, q0, q3, q4] <;> rfl))
  (repeat (first | (apply G.h; constructor <;> (first | exact Zc | apply gI | ((repeat' (first | exact Y0 | apply Y1 | ((first | apply Y4 | apply Y5); simp only [evs, Nat.reduceEqDiff, reduceIte, qn, qd, q0, q3, q4] <;> rfl))); done) | (apply Y6; (try simp only [evs, qn, qd, q0, q3, q4]); first | rfl)))))
  apply g_convI (w := ((97 + i % 26 : Nat) : Int))
  focus exact Rf.mk
  focus exact Rf.mk
  focus (apply Ev.mk; (simp only [evs, Nat.reduceEqDiff, reduceIte, qn, qd, q0, q3, q4] <;> rfl))
  focus exact Om.mk (by rw [← wrap8 (n := 97 + i % 26) (by omega)]; congr 1)
  focus (apply Dn.mk; (simp only [evs, Nat.reduceEqDiff, reduceIte, qn, qd, q0, q3, q4] <;> rfl))
  (repeat (first | (apply G.h; constructor <;> (first | exact Zc | apply gI | ((repeat' (first | exact Y0 | apply Y1 | ((first | apply Y4 | apply Y5); simp only [evs, Nat.reduceEqDiff, reduceIte, qn, qd, q0, q3, q4] <;> rfl))); done) | (apply Y6; (try simp only [evs, qn, qd, q0, q3, q4]); first | rfl)))))
  apply g_bin
  focus (apply Ev.mk; (simp only [evs, Nat.reduceEqDiff, reduceIte, qn, qd, q0, q3, q4] <;> rfl))
  focus (apply Ev.mk; (simp only [evs, Nat.reduceEqDiff, reduceIte, qn, qd, q0, q3, q4] <;> rfl))
  focus exact n_quo26 i (by omega)
  focus (apply Dn.mk; (simp only [evs, Nat.reduceEqDiff, reduceIte, qn, qd, q0, q3, q4] <;> rfl))
  (repeat (first | (apply G.h; constructor <;> (first | exact Zc | apply gI | ((repeat' (first | exact Y0 | apply Y1 | ((first | apply Y4 | apply Y5); simp only [evs, Nat.reduceEqDiff, reduceIte, qn, qd, q0, q3, q4] <;> rfl))); done) | (apply Y6; (try simp only [evs, qn, qd, q0, q3, q4]); first | rfl)))))
  apply g_convI (w := ((97 + i / 26 : Nat) : Int))
  focus exact Rf.mk
  focus exact Rf.mk
  focus (apply Ev.mk; (simp only [evs, Nat.reduceEqDiff, reduceIte, qn, qd, q0, q3, q4] <;> rfl))
  focus exact Om.mk (by rw [← wrap8 (n := 97 + i / 26) (by omega)]; congr 1)
  focus (apply Dn.mk; (simp only [evs, Nat.reduceEqDiff, reduceIte, qn, qd, q0, q3, q4] <;> rfl))
  (repeat (first | (apply G.h; constructor <;> (first | exact Zc | apply gI | ((repeat' (first | exact Y0 | apply Y1 | ((first | apply Y4 | apply Y5); simp only [evs, Nat.reduceEqDiff, reduceIte, qn, qd, q0, q3, q4] <;> rfl))); done) | (apply Y6; (try simp only [evs, qn, qd, q0, q3, q4]); first | rfl)))))
  (apply g_bytesStr <;> (first | exact Zc | apply gI | ((repeat' (first | exact Y0 | apply Y1 | exact Y2 | apply Y3 | ((first | apply Y4 | apply Y5); simp only [evs, Nat.reduceEqDiff, reduceIte, qn, qd, q0, q3, q4] <;> rfl))); done) | (apply Hy.mk; (try simp only [evs, qn, qd, q0, q3, q4]); first | exact y1 | exact p2 | exact p3 | exact p4 | assumption) | (apply Om.mk; first | exact y1 | exact p2 | exact p3 | exact p4) | (apply Y6; (try simp only [evs, qn, qd, q0, q3, q4]); first | rfl) | apply Cn.mk))
  (repeat (first | (apply G.h; constructor <;> (first | exact Zc | apply gI | ((repeat' (first | exact Y0 | apply Y1 | ((first | apply Y4 | apply Y5); simp only [evs, Nat.reduceEqDiff, reduceIte, qn, qd, q0, q3, q4] <;> rfl))); done) | (apply Y6; (try simp only [evs, qn, qd, q0, q3, q4]); first | rfl)))))
  refine ih (i + 1) _ ⟨(by refine ⟨?_, ?_, ?_, ?_, ?_⟩ <;> (simp only [evs, Nat.reduceEqDiff, reduceIte, qn, qd, q0, q3, q4] <;> first | rfl | (congr 1; omega) | omega)), hlt, by simp only [evs]; exact qg.new _⟩ (by omega)
 ·obtain rfl : i = n := by omega
  clear ih
  have c4 : (preT i).length + ([32, 125] : Bs).length ≤ 4611686018427387904 := by show (preT i).length + 2 ≤ _; omega
  have hcl := (cells_bytes (srcT i)).1
  have hsl := srcT_len i
  (repeat (first | (apply G.h; constructor <;> (first | exact Zc | apply gI | ((repeat' (first | exact Y0 | apply Y1 | ((first | apply Y4 | apply Y5); simp only [evs, Nat.reduceEqDiff, reduceIte, qn, qd, q0, q3, q4] <;> rfl))); done) | (apply Y6; (try simp only [evs, qn, qd, q0, q3, q4]); first | rfl)))))
  apply g_strBytes (r := srcT i)
  focus exact Rf.mk
  focus exact Rf.mk
  focus exact Rf.mk
  focus exact Rf.mk
  focus (apply Ev.mk; (simp only [evs, Nat.reduceEqDiff, reduceIte, qn, qd, q0, q3, q4]); exact congrArg (fun r => Value.string ⟨⟨r⟩⟩) (preT_src i))
  focus exact Hy.mk rfl
  focus exact Om.mk (by omega)
  focus (apply Dn.mk; (simp only [evs, Nat.reduceEqDiff, reduceIte, qn, qd, q0, q3, q4] <;> rfl))
  refine Cn.mk ?_
  have hB := bts_new a.m (srcT i)
  (repeat (first | (apply G.h; constructor <;> (first | exact Zc | apply gI | ((repeat' (first | exact Y0 | apply Y1 | ((first | apply Y4 | apply Y5); simp only [evs, Nat.reduceEqDiff, reduceIte, qn, qd, q0, q3, q4] <;> rfl))); done) | (apply Y6; (try simp only [evs, qn, qd, q0, q3, q4]); first | rfl)))))
  ((first | apply g_run | apply g_run0) <;> (first | ((repeat' (first | exact Y0 | apply Y1 | exact Y2 | apply Y3 | ((first | apply Y4 | apply Y5); simp only [evs, Nat.reduceEqDiff, reduceIte, qn, qd, q0, q3, q4] <;> rfl))); done) | exact Rn.mk ((by simp only [evs, qn, qd, q0, q3, q4]; exact parse11 (by omega) (by omega) (Nat.le_refl _) hB)) | apply Cn.mk))
  rintro v m3 ⟨k3, lv, rfl, s3⟩
  try simp only [evs] at k3 s3
  have hlen := progN_len i
  have hfl := nflat_len (progN i)
  obtain ⟨nb, cap, rr, nn, rfl, y2, y3, y4, y5, y6, -⟩ := s3.at (i := 0) (by omega)
  have hnn : nn = (progN i).length := by
   have := congrArg List.length y6
   rw [List.length_take] at this
   omega
  subst hnn
  have k03 : Keep (fun c => c < m.next) [] m m3 := (Keep.grow qg).trans ((Keep.new _).trans k3.all)
  have hNm3 := hNm.stay (X := fun c => c < m.next) h0 h0 k03
  have hp := progN_ok (n := i) (by omega)
  obtain ⟨w1, w2⟩ := walked_progN (n := i) (by omega) (by omega)
  (repeat (first | (apply G.h; constructor <;> (first | exact Zc | apply gI | ((repeat' (first | exact Y0 | apply Y1 | ((first | apply Y4 | apply Y5); simp only [evs, Nat.reduceEqDiff, reduceIte, qn, qd, q0, q3, q4] <;> rfl))); done) | (apply Y6; (try simp only [evs, qn, qd, q0, q3, q4]); first | rfl)))))
  ((first | apply g_run | apply g_run0) <;> (first | ((repeat' (first | exact Y0 | apply Y1 | exact Y2 | apply Y3 | ((first | apply Y4 | apply Y5); simp only [evs, Nat.reduceEqDiff, reduceIte, qn, qd, q0, q3, q4] <;> rfl))); done) | exact Rn.mk ((by simp only [evs, qn, qd, q0, q3, q4]; exact resolve12 nb 0 cap (progN i) (progN_okx (by omega)) (by omega) (by unfold progN; simp) _ (sl_nodes s3) hNm3 y3.1 (Nat.lt_of_lt_of_le h0 k03.1))) | apply Cn.mk))
  rintro v m4 ⟨k4, hres⟩
  try simp only [evs] at k4 hres
  rcases hres with ⟨hbad, -⟩ | ⟨-, hres⟩
  ·rw [hp] at hbad; cases hbad
  have z5 := row_new m4 [nilS, nilS, nilS] 31 0
  rcases Nat.lt_or_ge 256 i with h256 | h256
  ·obtain ⟨e1, e2⟩ := w2 h256
   rcases hres with ⟨-, rfl⟩ | ⟨h, -⟩
   case' inr => rw [e1] at h; cases h
   rw [e1, e2]
   (repeat (first | (apply G.h; constructor <;> (first | exact Zc | apply gI | ((repeat' (first | exact Y0 | apply Y1 | ((first | apply Y4 | apply Y5); simp only [evs, Nat.reduceEqDiff, reduceIte, qn, qd, q0, q3, q4] <;> rfl))); done) | (apply Y6; (try simp only [evs, qn, qd, q0, q3, q4]); first | rfl)))))
   (apply g_stR <;> (first | exact Zc | apply gI | ((repeat' (first | exact Y0 | apply Y1 | exact Y2 | apply Y3 | ((first | apply Y4 | apply Y5); simp only [evs, Nat.reduceEqDiff, reduceIte, qn, qd, q0, q3, q4] <;> rfl))); done) | (apply Hy.mk; (try simp only [evs, qn, qd, q0, q3, q4]); first | exact z5 | assumption) | (apply Om.mk; first | exact z5) | (apply Y6; (try simp only [evs, qn, qd, q0, q3, q4]); first | rfl) | apply Cn.mk))
   intro m5 r5 o5 n5; simp only [evs, qn, qd, q0, q3, q4] at r5 o5 n5
   (repeat (first | (apply G.h; constructor <;> (first | exact Zc | apply gI | ((repeat' (first | exact Y0 | apply Y1 | ((first | apply Y4 | apply Y5); simp only [evs, Nat.reduceEqDiff, reduceIte, qn, qd, q0, q3, q4] <;> rfl))); done) | (apply Y6; (try simp only [evs, qn, qd, q0, q3, q4]); first | exact r5.load1 rfl rfl rfl)))))
   ((first | apply g_run | apply g_run0) <;> (first | ((repeat' (first | exact Y0 | apply Y1 | exact Y2 | apply Y3 | ((first | apply Y4 | apply Y5); simp only [evs, Nat.reduceEqDiff, reduceIte, qn, qd, q0, q3, q4] <;> rfl))); done) | exact Rn.mk (num15 3 _) | apply Cn.mk))
   rintro v m6 ⟨rfl, rfl⟩
   (repeat (first | (apply G.h; constructor <;> (first | exact Zc | apply gI | ((repeat' (first | exact Y0 | apply Y1 | ((first | apply Y4 | apply Y5); simp only [evs, Nat.reduceEqDiff, reduceIte, qn, qd, q0, q3, q4] <;> rfl))); done) | (apply Y6; (try simp only [evs, qn, qd, q0, q3, q4]); first | exact r5.load1 rfl rfl rfl)))))
   ((first | apply g_run | apply g_run0) <;> (first | ((repeat' (first | exact Y0 | apply Y1 | exact Y2 | apply Y3 | ((first | apply Y4 | apply Y5); simp only [evs, Nat.reduceEqDiff, reduceIte, qn, qd, q0, q3, q4] <;> rfl))); done) | exact Rn.mk (live10 _) | apply Cn.mk))
   rintro v m7 ⟨rfl, rfl⟩
   (repeat (first | (apply G.h; constructor <;> (first | exact Zc | apply gI | ((repeat' (first | exact Y0 | apply Y1 | ((first | apply Y4 | apply Y5); simp only [evs, Nat.reduceEqDiff, reduceIte, qn, qd, q0, q3, q4] <;> rfl))); done) | (apply Y6; (try simp only [evs, qn, qd, q0, q3, q4]); first | rfl)))))
   (refine g_fin (by repeat' first | exact Rs.nil | apply Rs.cons | (apply Y4; simp only [evs, Nat.reduceEqDiff, reduceIte, qn, qd, q0, q3, q4] <;> rfl)) (by (simp only [evs, Nat.reduceEqDiff, reduceIte, qn, qd, q0, q3, q4] <;> first | rfl | (congr 1; omega) | omega)) ?_)
   rfl
  ·obtain ⟨e1, f0, f1, e2, e3⟩ := w1 h256
   rcases hres with ⟨h, -⟩ | ⟨-, fv, uv, gv, cvs, rfl, sf, hcp, su, sg⟩
   case' inl => exact absurd e1 h
   have hcl2 := hcp.1
   obtain ⟨ua, un, uc, rfl, -⟩ := su.form (by decide)
   obtain ⟨ga, gn, gc, rfl, -⟩ := sg.form (by decide)
   rw [e2] at sf hcl2
   obtain ⟨fb, fc, hfv, hl2⟩ := Sl.fn2 sf hcl2 (i := 1) (by show 1 < 2; decide)
   replace hfv : fv = .slice (some ⟨fb, 0, none⟩) 2 fc := hfv
   subst hfv
   replace hl2 : loadAt evEnv m4 3 fb (0 + 1 * 4 + 2) = some (I f1.slots) := hl2
   rw [e3] at hl2
   (repeat (first | (apply G.h; constructor <;> (first | exact Zc | apply gI | ((repeat' (first | exact Y0 | apply Y1 | ((first | apply Y4 | apply Y5); simp only [evs, Nat.reduceEqDiff, reduceIte, qn, qd, q0, q3, q4] <;> rfl))); done) | (apply Y6; (try simp only [evs, qn, qd, q0, q3, q4]); first | rfl)))))
   (apply g_stR <;> (first | exact Zc | apply gI | ((repeat' (first | exact Y0 | apply Y1 | exact Y2 | apply Y3 | ((first | apply Y4 | apply Y5); simp only [evs, Nat.reduceEqDiff, reduceIte, qn, qd, q0, q3, q4] <;> rfl))); done) | (apply Hy.mk; (try simp only [evs, qn, qd, q0, q3, q4]); first | exact z5 | assumption) | (apply Om.mk; first | exact z5) | (apply Y6; (try simp only [evs, qn, qd, q0, q3, q4]); first | rfl) | apply Cn.mk))
   intro m5 r5 o5 n5; simp only [evs, qn, qd, q0, q3, q4] at r5 o5 n5
   have g5 : Grow m4 m5 := ((Grow.refl m4).new _).wrote (Nat.le_refl _) o5 n5
   obtain ⟨fb', fc', he, hl5⟩ := Sl.fn2 (sf.grow g5) hcl2 (i := 1) (by show 1 < 2; decide)
   cases he
   replace hl5 : loadAt evEnv m5 3 fb (0 + 1 * 4 + 2) = some (I f1.slots) := hl5
   rw [e3] at hl5
   (repeat (first | (apply G.h; constructor <;> (first | exact Zc | apply gI | ((repeat' (first | exact Y0 | apply Y1 | ((first | apply Y4 | apply Y5); simp only [evs, Nat.reduceEqDiff, reduceIte, qn, qd, q0, q3, q4] <;> rfl))); done) | (apply Y6; (try simp only [evs, qn, qd, q0, q3, q4]); first | exact r5.load1 rfl rfl rfl)))))
   ((first | apply g_run | apply g_run0) <;> (first | ((repeat' (first | exact Y0 | apply Y1 | exact Y2 | apply Y3 | ((first | apply Y4 | apply Y5); simp only [evs, Nat.reduceEqDiff, reduceIte, qn, qd, q0, q3, q4] <;> rfl))); done) | exact Rn.mk (num15 0 _) | apply Cn.mk))
   rintro v m6 ⟨rfl, rfl⟩
   (repeat (first | (apply G.h; constructor <;> (first | exact Zc | apply gI | ((repeat' (first | exact Y0 | apply Y1 | ((first | apply Y4 | apply Y5); simp only [evs, Nat.reduceEqDiff, reduceIte, qn, qd, q0, q3, q4] <;> rfl))); done) | (apply Y6; (try simp only [evs, qn, qd, q0, q3, q4]); first | exact hl5 | exact r5.load1 rfl rfl rfl)))))
   ((first | apply g_run | apply g_run0) <;> (first | ((repeat' (first | exact Y0 | apply Y1 | exact Y2 | apply Y3 | ((first | apply Y4 | apply Y5); simp only [evs, Nat.reduceEqDiff, reduceIte, qn, qd, q0, q3, q4] <;> rfl))); done) | exact Rn.mk (live10 _) | apply Cn.mk))
   rintro v m7 ⟨rfl, rfl⟩
   (repeat (first | (apply G.h; constructor <;> (first | exact Zc | apply gI | ((repeat' (first | exact Y0 | apply Y1 | ((first | apply Y4 | apply Y5); simp only [evs, Nat.reduceEqDiff, reduceIte, qn, qd, q0, q3, q4] <;> rfl))); done) | (apply Y6; (try simp only [evs, qn, qd, q0, q3, q4]); first | rfl)))))
   (refine g_fin (by repeat' first | exact Rs.nil | apply Rs.cons | (apply Y4; simp only [evs, Nat.reduceEqDiff, reduceIte, qn, qd, q0, q3, q4] <;> rfl)) (by (simp only [evs, Nat.reduceEqDiff, reduceIte, qn, qd, q0, q3, q4] <;> first | rfl | (congr 1; omega) | omega)) ?_)
   rfl
end Go.Proofs.YtihokakelnfdgaaDoor
