/- Part of an evaluator for closed runs, and of its proof (EvQ7). -/
import Derived.Test.YtihokakelnfdgaaDoorEvQ6
namespace Go.Ev
open Go.RowKit
set_option linter.unusedVariables false
set_option linter.unusedSectionVars false
variable [Sym]

section
variable {E : Env} {G : Nat} {w0 w : World} {φ : Phi} {m : Mem} {ρ ρ' : Rho}

theorem find_form {kt : TypeId} {k : Value} : ∀ (es : List (Value × Value)) (r : Option Value), quiet.find E m kt k es = some r →
    (r = none ∧ quiet.keyOk E kt k = true ∧ ∀ e ∈ es, quiet.eqKey E m kt k e.1 = some false) ∨
    (∃ pre k0 v post, es = pre ++ (k0, v) :: post ∧ r = some v ∧ (∀ e ∈ pre, quiet.eqKey E m kt k e.1 = some false) ∧ quiet.eqKey E m kt k k0 = some true)
  | [], r, h => by
    cases hk : quiet.keyOk E kt k with
    | false => simp [quiet.find, hk] at h
    | true => simp [quiet.find, hk] at h; exact .inl ⟨h.symm, rfl, by simp⟩
  | (k', v) :: es, r, h => by
    simp only [quiet.find] at h
    split at h
    · cases h
    · rename_i hk; cases h; exact .inr ⟨[], k', v, es, rfl, rfl, by simp, hk⟩
    · rename_i hk
      rcases find_form es r h with ⟨h1, h0, h2⟩ | ⟨pre, k0, v0, post, h1, h2, h3, h4⟩
      · exact .inl ⟨h1, h0, fun e he => (List.mem_cons.1 he).elim (fun hh => hh ▸ hk) (fun hh => h2 e hh)⟩
      · refine .inr ⟨(k', v) :: pre, k0, v0, post, by rw [h1]; rfl, h2, fun e he => (List.mem_cons.1 he).elim (fun hh => hh ▸ hk) (fun hh => h3 e hh), h4⟩

theorem upd_form {kt : TypeId} {k x : Value} : ∀ (es r : List (Value × Value)), effect.upd E m kt k x es = some r →
    (r = es ++ [(k, x)] ∧ quiet.keyOk E kt k = true ∧ ∀ e ∈ es, quiet.eqKey E m kt k e.1 = some false) ∨
    (∃ pre k0 v post, es = pre ++ (k0, v) :: post ∧ r = pre ++ (k, x) :: post ∧ (∀ e ∈ pre, quiet.eqKey E m kt k e.1 = some false) ∧ quiet.eqKey E m kt k k0 = some true)
  | [], r, h => by
    cases hk : quiet.keyOk E kt k with
    | false => simp [effect.upd, hk] at h
    | true => simp [effect.upd, hk] at h; exact .inl ⟨by simp [h], rfl, by simp⟩
  | (k', v) :: es, r, h => by
    simp only [effect.upd] at h
    split at h
    · cases h
    · rename_i hk; cases h; exact .inr ⟨[], k', v, es, rfl, rfl, by simp, hk⟩
    · rename_i hk
      split at h
      · cases h
      · rename_i r' hr
        cases h
        rcases upd_form es r' hr with ⟨h1, h0, h2⟩ | ⟨pre, k0, v0, post, h1, h2, h3, h4⟩
        · exact .inl ⟨by rw [h1]; rfl, h0, fun e he => (List.mem_cons.1 he).elim (fun hh => hh ▸ hk) (fun hh => h2 e hh)⟩
        · refine .inr ⟨(k', v) :: pre, k0, v0, post, by rw [h1]; rfl, by rw [h2]; rfl, fun e he => (List.mem_cons.1 he).elim (fun hh => hh ▸ hk) (fun hh => h3 e hh), h4⟩

/-- how the model holds a key against an entry's. -/
inductive KE (P : Program) (w : World) (d : TypeDesc) (kt : TypeId) (k e : Value) (b : Bool) : Prop where
  | now (h : Instr.sameNow d k e = some b)
  | ask (h : ∀ x y, Instr.sameNow d x y = none) (hb : (Op.equal kt k e).run P w = .ok b w)

theorem eqKey_sound (hE : EnvOk E G) (hR : Rel E.P G w0 φ m w) {kt : TypeId} {k e k' e' : Value} {b : Bool} (h : quiet.eqKey E m kt k e = some b) (hk : VR φ k k') (he : VR φ e e') :
    ∃ d, E.under kt = some d ∧ KE E.P w d kt k' e' b ∧ (∀ (n : Nat) (em : Bool), (Instr.checkKey em (n + 1) kt k').run E.P w = .ok () w) ∧ (b = true → Instr.sameBits 10000 e' k' = true) := by
  unfold quiet.eqKey at h
  split at h
  · rename_i ki kk a kk' c hd
    cases hk.int_inv; cases he.int_inv
    split at h
    · rename_i hkk
      subst hkk
      cases h
      refine ⟨_, hd, .now (by simp [Instr.sameNow]), fun n em => by simp [Instr.checkKey, under_run hE hd], fun hb => ?_⟩
      have : a = c := by simpa using hb
      subst this
      simp [Instr.sameBits]
    · cases h
  · rename_i a c hd
    cases hk.string_inv; cases he.string_inv
    cases h
    refine ⟨_, hd, .now ?_, fun n em => by simp [Instr.checkKey, under_run hE hd], fun hb => ?_⟩
    · simp only [Instr.sameNow, Option.some.injEq]
      rw [bytesEq_eq, beq_toListBytes, ByteArray.toList_eq, ByteArray.toList_eq]
    · rw [bytesEq_eq] at hb
      have : a = c := by simpa using hb
      subst this
      simp [Instr.sameBits, beq_toListBytes]
  · rename_i el a c hd
    refine ⟨_, hd, .ask (fun x y => by cases x <;> cases y <;> rfl) (eqPtr_sound hE hR h hk he 9999), ?_, fun hb => ?_⟩
    · intro n em
      cases hk <;> simp [Instr.checkKey, under_run hE hd]
    · subst hb
      unfold eqPtr at h
      simp only [hd] at h
      cases a with
      | none =>
        cases c with
        | none => cases hk; cases he; simp [Instr.sameBits]
        | some c => simp at h
      | some a =>
        cases c with
        | none => simp at h
        | some c =>
          obtain ⟨ba, oa, sa⟩ := a
          obtain ⟨bc, oc, sc⟩ := c
          obtain ⟨a', rfl, hφa, hsa⟩ := hk.ptr_any
          obtain ⟨c', rfl, hφc, hsc⟩ := he.ptr_any
          simp only at hφa hφc hsa hsc
          subst hsa hsc
          simp only at h
          split at h
          · cases hbb : Nat.beq ba bc with
            | true =>
              have := Nat.eq_of_beq_eq_true hbb
              subst this
              simp only [hbb, cond_true] at h
              simp only [and_self, if_true, Option.some.injEq] at h
              have := Nat.eq_of_beq_eq_true h
              subst this
              rw [hφa] at hφc
              cases hφc
              simp [Instr.sameBits]
            | false =>
              simp only [hbb, cond_false] at h
              cases hn : notStr m ba && notStr m bc <;> simp [hn] at h
          · cases h
  · cases h

theorem keyOk_sound (hE : EnvOk E G) {kt : TypeId} {k k' : Value} (h : quiet.keyOk E kt k = true) (hk : VR φ k k') :
    ∃ d, E.under kt = some d ∧ (∀ (n : Nat) (em : Bool), (Instr.checkKey em (n + 1) kt k').run E.P w = .ok () w) := by
  unfold quiet.keyOk at h
  split at h
  · rename_i hd; cases hk; exact ⟨_, hd, fun n em => by simp [Instr.checkKey, under_run hE hd]⟩
  · rename_i hd; cases hk; exact ⟨_, hd, fun n em => by simp [Instr.checkKey, under_run hE hd]⟩
  · rename_i hd; refine ⟨_, hd, fun n em => ?_⟩; cases hk <;> simp [Instr.checkKey, under_run hE hd]
  · cases h

theorem findNow_none {d : TypeDesc} {k : Value} : ∀ (es : List MapEntry) (i : Nat), (∀ e ∈ es, Instr.sameNow d k e.key = some false) → Instr.findNow d k es i = some none
  | [], i, _ => rfl
  | e :: es, i, h => by
    simp only [Instr.findNow, h e (by simp)]
    exact findNow_none es (i + 1) fun x hx => h x (by simp [hx])

theorem findNow_some {d : TypeDesc} {k : Value} {e0 : MapEntry} {post : List MapEntry} : ∀ (pre : List MapEntry) (i : Nat), (∀ e ∈ pre, Instr.sameNow d k e.key = some false) → Instr.sameNow d k e0.key = some true →
    Instr.findNow d k (pre ++ e0 :: post) i = some (some (i + pre.length, e0.val))
  | [], i, _, h0 => by simp [Instr.findNow, h0]
  | e :: pre, i, h, h0 => by
    simp only [List.cons_append, Instr.findNow, h e (by simp)]
    rw [findNow_some pre (i + 1) (fun x hx => h x (by simp [hx])) h0]
    simp; omega

theorem findAsking_none {kt : TypeId} {k : Value} : ∀ (es : List MapEntry) (i : Nat), (∀ e ∈ es, (Op.equal kt k e.key).run E.P w = .ok false w) → (Instr.findAsking kt k es i).run E.P w = .ok none w
  | [], i, _ => by simp [Instr.findAsking]
  | e :: es, i, h => by
    simp only [Instr.findAsking, Sem.run_bind, h e (by simp), Result.andThen_ok]
    exact findAsking_none es (i + 1) fun x hx => h x (by simp [hx])

theorem findAsking_some {kt : TypeId} {k : Value} {e0 : MapEntry} {post : List MapEntry} : ∀ (pre : List MapEntry) (i : Nat), (∀ e ∈ pre, (Op.equal kt k e.key).run E.P w = .ok false w) → (Op.equal kt k e0.key).run E.P w = .ok true w →
    (Instr.findAsking kt k (pre ++ e0 :: post) i).run E.P w = .ok (some (i + pre.length, e0.val)) w
  | [], i, _, h0 => by simp [Instr.findAsking, h0]
  | e :: pre, i, h, h0 => by
    simp only [List.cons_append, Instr.findAsking, Sem.run_bind, h e (by simp), Result.andThen_ok]
    have := findAsking_some (post := post) pre (i + 1) (fun x hx => h x (by simp [hx])) h0
    simp only [Bool.false_eq_true, if_false, this]
    simp; omega

theorem findKey_none (hE : EnvOk E G) {kt : TypeId} {d : TypeDesc} {k : Value} (es : List MapEntry) (hd : E.under kt = some d) (h : ∀ e ∈ es, KE E.P w d kt k e.key false) :
    (Instr.findKey kt k es).run E.P w = .ok none w := by
  unfold Instr.findKey
  simp only [Sem.run_bind, under_run hE hd, Result.andThen_ok]
  by_cases hn : ∀ e ∈ es, Instr.sameNow d k e.key = some false
  · rw [findNow_none es 0 hn]; rfl
  · have hask : ∀ x y, Instr.sameNow d x y = none := by
      apply Classical.byContradiction
      intro hno
      refine hn fun e he => ?_
      cases h e he with
      | now h => exact h
      | ask h _ => exact absurd h hno
    have h2 : ∀ e ∈ es, (Op.equal kt k e.key).run E.P w = .ok false w := fun e he => by
      cases h e he with
      | now h => rw [hask] at h; cases h
      | ask _ h => exact h
    cases es with
    | nil => exact absurd (by simp) hn
    | cons e es =>
      have : Instr.findNow d k (e :: es) 0 = none := by simp [Instr.findNow, hask]
      rw [this]
      exact findAsking_none (e :: es) 0 h2

theorem findKey_some (hE : EnvOk E G) {kt : TypeId} {d : TypeDesc} {k : Value} {e0 : MapEntry} {post : List MapEntry} (pre : List MapEntry) (hd : E.under kt = some d) (h : ∀ e ∈ pre, KE E.P w d kt k e.key false) (h0 : KE E.P w d kt k e0.key true) :
    (Instr.findKey kt k (pre ++ e0 :: post)).run E.P w = .ok (some (pre.length, e0.val)) w := by
  unfold Instr.findKey
  simp only [Sem.run_bind, under_run hE hd, Result.andThen_ok]
  cases h0 with
  | now h0 =>
    have : ∀ e ∈ pre, Instr.sameNow d k e.key = some false := fun e he => by
      cases h e he with
      | now h => exact h
      | ask h _ => rw [h] at h0; cases h0
    rw [findNow_some pre 0 this h0]
    simp
  | ask hask h0 =>
    have h2 : ∀ e ∈ pre, (Op.equal kt k e.key).run E.P w = .ok false w := fun e he => by
      cases h e he with
      | now h => rw [hask] at h; cases h
      | ask _ h => exact h
    have : Instr.findNow d k (pre ++ e0 :: post) 0 = none := by cases pre <;> simp [Instr.findNow, hask]
    rw [this]
    have := findAsking_some (E := E) (w := w) (post := post) pre 0 h2 h0
    simpa using this

/-- a map's entries, cut where the abstract ones are cut. -/
theorem entries_cut {φ : Phi} {pre post : List (Value × Value)} {k0 v0 : Value} {es' : List MapEntry} (hk : VRs φ ((pre ++ (k0, v0) :: post).map (·.1)) (es'.map (·.key)))
    (hv : VRs φ ((pre ++ (k0, v0) :: post).map (·.2)) (es'.map (·.val))) :
    ∃ pre' e0 post', es' = pre' ++ e0 :: post' ∧ pre'.length = pre.length ∧ VR φ k0 e0.key ∧ VR φ v0 e0.val ∧ VRs φ (pre.map (·.1)) (pre'.map (·.key)) ∧ VRs φ (pre.map (·.2)) (pre'.map (·.val)) ∧
      VRs φ (post.map (·.1)) (post'.map (·.key)) ∧ VRs φ (post.map (·.2)) (post'.map (·.val)) := by
  induction pre generalizing es' with
  | nil =>
    cases es' with
    | nil => cases hk
    | cons e es' =>
      simp only [List.nil_append, List.map_cons] at hk hv
      cases hk with | cons a b =>
      cases hv with | cons c d =>
      exact ⟨[], e, es', rfl, rfl, a, c, .nil, .nil, b, d⟩
  | cons p pre ih =>
    cases es' with
    | nil => cases hk
    | cons e es' =>
      simp only [List.cons_append, List.map_cons] at hk hv
      cases hk with | cons a b =>
      cases hv with | cons c d =>
      obtain ⟨pre', e0, post', h1, h2, h3, h4, h5, h6, h7, h8⟩ := ih b d
      exact ⟨e :: pre', e0, post', by rw [h1]; rfl, by simp [h2], h3, h4, .cons a h5, .cons c h6, h7, h8⟩

theorem keys_mem {φ : Phi} : ∀ {pre : List (Value × Value)} {pre' : List MapEntry}, VRs φ (pre.map (·.1)) (pre'.map (·.key)) → ∀ e' ∈ pre', ∃ e ∈ pre, VR φ e.1 e'.key
  | [], [], _, e', h => by simp at h
  | p :: pre, q :: pre', h, e', he => by
    simp only [List.map_cons] at h
    cases h with | cons a b =>
    rcases List.mem_cons.1 he with rfl | he
    · exact ⟨p, by simp, a⟩
    · obtain ⟨e, h1, h2⟩ := keys_mem b e' he
      exact ⟨e, by simp [h1], h2⟩
  | [], _ :: _, h, _, _ => by cases h
  | _ :: _, [], h, _, _ => by cases h

end
end Go.Ev
