/- ScopePrims returns true for every name and number: closed runs over signs for what is open. -/
import Derived.Test.YtihokakelnfdgaaDoorLaid
import Derived.Test.YtihokakelnfdgaaDoorNumWalk
namespace Go.Proofs.YtihokakelnfdgaaDoor
open Go Go.Ev Go.RowKit
set_option maxRecDepth 1000000

def tok (n : Nat) : Value := .chan (some n)
def emptyStr : Value := .string ⟨⟨[]⟩⟩

/-- of a name that is none of the primitives'. -/
noncomputable def evEnvN : Env := { evEnv with facts := nameBytes.map fun b => (.eql, evStr b, tok 3, .bool false) }
theorem evNot21 : (fun e : TypeId => back (call evEnvN 1000 21 [tok 3] (startMem (evStart e)))) = fun _ => some (.tuple ⟨[.int .i64 0, .bool false]⟩) := by kernel_rfl
theorem evNot17 : (fun e : TypeId => back (call evEnvN 1000 17 [tok 3] (startMem (evStart e)))) = fun _ => some (.int .i64 (-1)) := by kernel_rfl
theorem evFound21 : (fun e : TypeId => nameBytes.map fun b => back (call evEnv 1000 21 [evStr b] (startMem (evStart e)))) = fun _ => (List.range 30).map fun k => some (.tuple ⟨[.int .i64 (.ofNat k), .bool true]⟩) := by kernel_rfl
theorem evFound17 : (fun e : TypeId => nameBytes.map fun b => back (call evEnv 1000 17 [evStr b] (startMem (evStart e)))) = fun _ => (List.range 30).map fun k => some (.int .i64 (.ofNat k)) := by kernel_rfl

/-- of all. -/
def factsP : List (BinOp × Value × Value × Value) := [(.geq, tok 2, .int .i64 0, .bool true), (.neq, tok 2, tok 2, .bool false), (.geq, tok 1, .int .i64 0, .bool false), (.geq, tok 4, .int .i64 0, .bool true), (.lss, tok 4, .int .i64 30, .bool false)]
def knownP : List (Nat × List Value × Value) := [(10, [], .bool true), (21, [tok 0], .tuple ⟨[tok 2, .bool true]⟩), (17, [tok 0], tok 2), (21, [tok 3], .tuple ⟨[.int .i64 0, .bool false]⟩), (17, [tok 3], .int .i64 (-1)), (23, [tok 1], emptyStr), (23, [tok 4], emptyStr)]
noncomputable def evEnvP : Env := { evEnv with facts := factsP, known := knownP }
def numbersP : List Value := tok 1 :: tok 4 :: (List.range 30).map fun i => .int .i64 (.ofNat i)
theorem evPrims : (fun e : TypeId => [tok 0, tok 3].map fun s => numbersP.map fun i => back (call evEnvP 1000 8 [s, i] (startMem (evStart e)))) = fun _ => List.replicate 2 (List.replicate 32 (some (Value.bool true))) := by kernel_rfl

theorem there8 : ∃ fn, evEnv.funcs.get 8 = some fn ∧ fn.body.isSome = true := ⟨Tryd.f8, by kernel_rfl, by kernel_rfl⟩
theorem there17 : ∃ fn, evEnv.funcs.get 17 = some fn ∧ fn.body.isSome = true := ⟨Tryd.f17, by kernel_rfl, by kernel_rfl⟩
theorem there21 : ∃ fn, evEnv.funcs.get 21 = some fn ∧ fn.body.isSome = true := ⟨Tryd.f21, by kernel_rfl, by kernel_rfl⟩
theorem there23 : ∃ fn, evEnv.funcs.get 23 = some fn ∧ fn.body.isSome = true := ⟨Tryd.f23, by kernel_rfl, by kernel_rfl⟩

section
variable {e : TypeId} {w : World}

theorem prim_found (h : Fits (evStart e) w) {k : Nat} {b : List UInt8} (hb : nameBytes[k]? = some b) :
    (Calls Tryd.prog 21 #[.string ⟨⟨b⟩⟩] w fun r w' => r = .returned (.tuple #[.int .i64 (.ofNat k), .bool true]) ∧ Below w.heap.size w w') ∧
    (Calls Tryd.prog 17 #[.string ⟨⟨b⟩⟩] w fun r w' => r = .returned (.int .i64 (.ofNat k)) ∧ Below w.heap.size w w') := by
  have hk : k < 30 := (List.getElem?_eq_some_iff.1 hb).1
  have h1 := congrArg (·[k]?) (congrFun evFound21 e)
  have h2 := congrArg (·[k]?) (congrFun evFound17 e)
  simp only [List.getElem?_map, hb, Option.map_some, List.getElem?_range hk, Option.some.injEq] at h1 h2
  exact ⟨closed (E := evEnv) (gs := evStart e) (fun [Sym] => evOk) rfl (show 1 ≤ 1000000000 by decide) h1 rfl rfl h, closed (E := evEnv) (gs := evStart e) (fun [Sym] => evOk) rfl (show 1 ≤ 1000000000 by decide) h2 rfl rfl h⟩

theorem bytesEq_false {a b : List UInt8} (h : a ≠ b) : bytesEq a b = false := by
  letI : Sym := ⟨fun _ => none⟩
  rw [bytesEq_eq]
  cases hb : a == b with
  | false => rfl
  | true => exact absurd (eq_of_beq hb) h

theorem prim_not (h : Fits (evStart e) w) {s : List UInt8} (hs : s ∉ nameBytes) :
    (Calls Tryd.prog 21 #[.string ⟨⟨s⟩⟩] w fun r w' => r = .returned (.tuple #[.int .i64 0, .bool false]) ∧ Below w.heap.size w w') ∧
    (Calls Tryd.prog 17 #[.string ⟨⟨s⟩⟩] w fun r w' => r = .returned (.int .i64 (-1)) ∧ Below w.heap.size w w') := by
  letI σ : Sym := ⟨fun n => if n = 3 then some (.string ⟨⟨s⟩⟩) else none⟩
  have hE : EnvOk evEnvN 1 := ⟨evOk.types, evOk.funcs, evOk.eqs, evOk.mixed, facts_of fun q hq => by
    obtain ⟨b, hb, rfl⟩ := List.mem_map.1 (show q ∈ nameBytes.map fun b => (BinOp.eql, evStr b, tok 3, Value.bool false) from hq)
    refine ⟨evStr b, .string ⟨⟨s⟩⟩, .val rfl, .tok (n := 3) rfl rfl, fun m t => ?_⟩
    have hne : b ≠ s := fun hbs => hs (hbs ▸ hb)
    show some (Value.bool (bytesEq b s)) = some (Value.bool false)
    rw [bytesEq_false hne], evOk.zeros⟩
  have hst : ∀ φ, VRs φ [tok 3] [.string ⟨⟨s⟩⟩] := fun φ => .cons (Stands.rel (.tok (n := 3) rfl rfl) φ) .nil
  constructor
  · refine (closed_args (E := evEnvN) (gs := evStart e) hE (show 1 ≤ 1000000000 by decide) (congrFun evNot21 e) hst h (known_none rfl w)).mono fun r w' hr => ?_
    obtain ⟨φ, v', rfl, hv, hb⟩ := hr
    rw [hv.plain_eq rfl]
    exact ⟨rfl, hb⟩
  · refine (closed_args (E := evEnvN) (gs := evStart e) hE (show 1 ≤ 1000000000 by decide) (congrFun evNot17 e) hst h (known_none rfl w)).mono fun r w' hr => ?_
    obtain ⟨φ, v', rfl, hv, hb⟩ := hr
    rw [hv.plain_eq rfl]
    exact ⟨rfl, hb⟩

theorem name_low {w : World} (i : Int) (hi : i < 0) : Calls Tryd.prog 23 #[.int .i64 i] w fun r w' => r = .returned emptyStr ∧ Below w.heap.size w w' :=
  (primName_low i (by simpa using hi) w).mono fun r w' ⟨h1, h2⟩ => ⟨h1, by subst h2; exact Below.refl _ _⟩
theorem name_high {w : World} (i : Int) (hi : 30 ≤ i) : Calls Tryd.prog 23 #[.int .i64 i] w fun r w' => r = .returned emptyStr ∧ Below w.heap.size w w' :=
  (primName_high i (by simpa using (show 0 ≤ i by omega)) (by simpa using hi) w).mono fun r w' ⟨h1, h2⟩ => ⟨h1, by subst h2; exact Below.refl _ _⟩

/-- of what is open: a primitive's name and its number, another name, a number too low, one too high. -/
theorem prims_any (h : Fits (evStart e) w) {k : Nat} {b s : List UInt8} {lo hi : Int} (hb : nameBytes[k]? = some b) (hs : s ∉ nameBytes) (hlo : lo < 0) (hhi : 30 ≤ hi) {x y : Value} {p q : Nat}
    (hp : [Value.string ⟨⟨b⟩⟩, .string ⟨⟨s⟩⟩][p]? = some x) (hq : (Value.int .i64 lo :: .int .i64 hi :: (List.range 30).map fun i => Value.int .i64 (.ofNat i))[q]? = some y) :
    Calls Tryd.prog 8 #[x, y] w fun r w' => r = .returned (.bool true) ∧ Below w.heap.size w w' := by
  letI σ : Sym := ⟨fun n => match n with | 0 => some (.string ⟨⟨b⟩⟩) | 1 => some (.int .i64 lo) | 2 => some (.int .i64 (.ofNat k)) | 3 => some (.string ⟨⟨s⟩⟩) | 4 => some (.int .i64 hi) | _ => none⟩
  have t0 : Stands (tok 0) (.string ⟨⟨b⟩⟩) := .tok (n := 0) rfl rfl
  have t1 : Stands (tok 1) (.int .i64 lo) := .tok (n := 1) rfl rfl
  have t2 : Stands (tok 2) (.int .i64 (.ofNat k)) := .tok (n := 2) rfl rfl
  have t3 : Stands (tok 3) (.string ⟨⟨s⟩⟩) := .tok (n := 3) rfl rfl
  have t4 : Stands (tok 4) (.int .i64 hi) := .tok (n := 4) rfl rfl
  have hE : EnvOk evEnvP 1 := ⟨evOk.types, evOk.funcs, evOk.eqs, evOk.mixed, facts_of fun q hq => by
    have hq' : q ∈ factsP := hq
    simp only [factsP, List.mem_cons, List.not_mem_nil, or_false] at hq'
    rcases hq' with rfl | rfl | rfl | rfl | rfl
    · exact ⟨_, _, t2, .val rfl, fun m t => by
        show some (Value.bool (decide ((Int.ofNat k) ≥ 0))) = _
        rw [decide_eq_true (show (Int.ofNat k) ≥ 0 from Int.natCast_nonneg k)]⟩
    · exact ⟨_, _, t2, t2, fun m t => by
        show some (Value.bool ((Int.ofNat k) != (Int.ofNat k))) = _
        simp⟩
    · exact ⟨_, _, t1, .val rfl, fun m t => by
        show some (Value.bool (decide (lo ≥ 0))) = _
        rw [decide_eq_false (by omega)]⟩
    · exact ⟨_, _, t4, .val rfl, fun m t => by
        show some (Value.bool (decide (hi ≥ 0))) = _
        rw [decide_eq_true (by omega)]⟩
    · exact ⟨_, _, t4, .val rfl, fun m t => by
        show some (Value.bool (decide (hi < 30))) = _
        rw [decide_eq_false (by omega)]⟩, evOk.zeros⟩
  have hK : KnownOk evEnvP w := known_of fun q hq => by
    have hq' : q ∈ knownP := hq
    simp only [knownP, List.mem_cons, List.not_mem_nil, or_false] at hq'
    rcases hq' with rfl | rfl | rfl | rfl | rfl | rfl | rfl
    · exact ⟨live_there, [], _, .nil, fun _ => .bool true, fun w' hw => live_calls (h.below hw h.1)⟩
    · exact ⟨there21, _, .tuple ⟨[.int .i64 (.ofNat k), .bool true]⟩, .cons t0 .nil, fun φ => .tuple (.cons (t2.rel φ) (.cons (.bool true) .nil)), fun w' hw => (prim_found (h.below hw h.1) hb).1⟩
    · exact ⟨there17, _, .int .i64 (.ofNat k), .cons t0 .nil, fun φ => t2.rel φ, fun w' hw => (prim_found (h.below hw h.1) hb).2⟩
    · exact ⟨there21, _, _, .cons t3 .nil, fun φ => VR.plain _ rfl, fun w' hw => (prim_not (h.below hw h.1) hs).1⟩
    · exact ⟨there17, _, _, .cons t3 .nil, fun φ => VR.plain _ rfl, fun w' hw => (prim_not (h.below hw h.1) hs).2⟩
    · exact ⟨there23, _, _, .cons t1 .nil, fun φ => VR.plain _ rfl, fun w' hw => name_low lo hlo⟩
    · exact ⟨there23, _, _, .cons t4 .nil, fun φ => VR.plain _ rfl, fun w' hw => name_high hi hhi⟩
  -- the run
  have hx : ∃ x0, [tok 0, tok 3][p]? = some x0 ∧ Stands x0 x := by
    match p, hp with
    | 0, hp => cases hp; exact ⟨tok 0, rfl, t0⟩
    | 1, hp => cases hp; exact ⟨tok 3, rfl, t3⟩
    | p + 2, hp => cases hp
  have hy : ∃ y0, numbersP[q]? = some y0 ∧ Stands y0 y ∧ q < 32 := by
    match q, hq with
    | 0, hq => cases hq; exact ⟨tok 1, rfl, t1, by decide⟩
    | 1, hq => cases hq; exact ⟨tok 4, rfl, t4, by decide⟩
    | q + 2, hq =>
      simp only [List.getElem?_cons_succ, List.getElem?_map] at hq
      cases hr : (List.range 30)[q]? with
      | none => rw [hr] at hq; cases hq
      | some i =>
        rw [hr] at hq
        simp only [Option.map_some, Option.some.injEq] at hq
        subst hq
        refine ⟨.int .i64 (.ofNat i), ?_, .val rfl, ?_⟩
        · simp only [numbersP, List.getElem?_cons_succ, List.getElem?_map, hr, Option.map_some]
        · have := (List.getElem?_eq_some_iff.1 hr).1
          rw [List.length_range] at this
          omega
  obtain ⟨x0, hx0, hxs⟩ := hx
  obtain ⟨y0, hy0, hys, hq32⟩ := hy
  have hp2 : p < 2 := (List.getElem?_eq_some_iff.1 hx0).1
  have h1 := congrArg (·[p]?) (congrFun evPrims e)
  simp only [List.getElem?_map, hx0, Option.map_some, List.getElem?_replicate, hp2, if_true, Option.some.injEq] at h1
  have h2 := congrArg (·[q]?) h1
  simp only [List.getElem?_map, hy0, Option.map_some, List.getElem?_replicate, hq32, if_true, Option.some.injEq] at h2
  refine (closed_args (E := evEnvP) (gs := evStart e) hE (show 1 ≤ 1000000000 by decide) h2 (fun φ => .cons (hxs.rel φ) (.cons (hys.rel φ) .nil)) h hK).mono fun r w' hr => ?_
  obtain ⟨φ, v', rfl, hv, hbw⟩ := hr
  rw [hv.plain_eq rfl]
  exact ⟨rfl, hbw⟩

theorem prims_walk (h : Fits (evStart e) w) (s : ByteArray) (i : Int) : Calls Tryd.prog 8 #[.string s, .int .i64 i] w fun r w' => r = .returned (.bool true) ∧ Below w.heap.size w w' := by
  have hnone : ([] : List UInt8) ∉ nameBytes := by decide
  obtain ⟨⟨l⟩⟩ := s
  have hi : ∃ (lo hi : Int) (q : Nat), lo < 0 ∧ 30 ≤ hi ∧ (Value.int .i64 lo :: .int .i64 hi :: (List.range 30).map fun i => Value.int .i64 (.ofNat i))[q]? = some (Value.int .i64 i) := by
    by_cases h0 : i < 0
    · exact ⟨i, 30, 0, h0, by decide, rfl⟩
    · by_cases h1 : 30 ≤ i
      · exact ⟨-1, i, 1, by decide, h1, rfl⟩
      · refine ⟨-1, 30, i.toNat + 2, by decide, by decide, ?_⟩
        simp only [List.getElem?_cons_succ, List.getElem?_map, List.getElem?_range (show i.toNat < 30 by omega), Option.map_some]
        rw [show Int.ofNat i.toNat = i by simp; omega]
  obtain ⟨lo, hi, q, h1, h2, h3⟩ := hi
  by_cases hs : l ∈ nameBytes
  · obtain ⟨k, hk⟩ := List.getElem?_of_mem hs
    exact prims_any h hk hnone h1 h2 (p := 0) rfl h3
  · exact prims_any (k := 0) h rfl hs h1 h2 (p := 1) rfl h3
end
end Go.Proofs.YtihokakelnfdgaaDoor
