/- The data-level semantics: plain data, an interpreter of the program over them, and its soundness; part 4. -/
import Derived.Test.YthbncndefigidaaDoorF3
set_option linter.unusedVariables false
set_option linter.unusedSimpArgs false
namespace Go.Proofs.YthbncndefigidaaDoor.DS

def HoldsL (a : Act) (L : List (Nat × Bool)) : Prop := ∀ p ∈ L, a.eval (.tmp p.1) = .bool p.2

theorem nthOp_get (ops : List Oper) : ∀ i, nthOp ops i = ops[i]? := by
  induction ops with
  | nil => intro i; simp [nthOp]
  | cons o r ih => intro i; cases i <;> simp [nthOp, ih]
theorem nthOp_lt {ops : List Oper} {i : Nat} {o : Oper} (h : nthOp ops i = some o) : i < ops.length := by
  rw [nthOp_get] at h; exact (List.getElem?_eq_some_iff.1 h).1
theorem nthOp_toList {ops : Array Oper} {i : Nat} : nthOp ops.toList i = ops[i]? := by
  rw [nthOp_get]; simp

theorem chainF_fuel (ops : List Oper) : ∀ n m j, j < n → j < m → chainF ops n j = chainF ops m j := by
  intro n
  induction n with
  | zero => intro m j h; omega
  | succ n ih =>
    intro m j h1 h2
    cases m with
    | zero => omega
    | succ m =>
      simp only [chainF]
      cases nthOp ops j with
      | none => rfl
      | some o =>
        simp only
        cases o.guard with
        | none => rfl
        | some g =>
          obtain ⟨k, w⟩ := g
          simp only
          cases hk : Nat.ble (k + 1) j with
          | false => rfl
          | true =>
            have hk' := Nat.le_of_ble_eq_true hk
            simp only [cond_true]
            cases nthOp ops k with
            | none => rfl
            | some ok =>
              simp only
              cases ok.dst with
              | none => rfl
              | some t => simp only; rw [ih m k (by omega) (by omega)]

theorem guards_spec {ops : List Oper} {draw : Bool} (h : guardsOk ops draw = true) {i : Nat} {o : Oper} (hi : nthOp ops i = some o) {j : Nat} {w : Bool} (hg : o.guard = some (j, w)) :
    ∃ oj t, nthOp ops j = some oj ∧ oj.dst = some t ∧ j < i ∧ chainOf ops i = (t, w) :: chainOf ops j ∧ (draw = true → j ∈ anyEdges o) := by
  have := allBelow_spec h i (nthOp_lt hi)
  rw [hi] at this
  simp only [hg, Bool.and_eq_true] at this
  obtain ⟨h1, h2, h3⟩ := this
  have hlt := Nat.le_of_ble_eq_true h1
  cases hj : nthOp ops j with
  | none => rw [hj] at h2; cases h2
  | some oj =>
    rw [hj] at h2
    simp only at h2
    obtain ⟨t, ht⟩ := Option.isSome_iff_exists.1 h2
    refine ⟨oj, t, rfl, ht, by omega, ?_, ?_⟩
    · unfold chainOf
      rw [show chainF ops (i + 1) i = (t, w) :: chainF ops i j by simp only [chainF, hi, hg, h1, cond_true, hj, ht]]
      rw [chainF_fuel ops i (j + 1) j (by omega) (by omega)]
    · intro hd
      rw [hd] at h3
      exact memN_iff.1 (by simpa using h3)
theorem chain_none {ops : List Oper} {i : Nat} {o : Oper} (hi : nthOp ops i = some o) (hg : o.guard = none) : chainOf ops i = [] := by
  simp only [chainOf, chainF, hi, hg]

theorem dstsOf_mem {ops : List Oper} {i : Nat} {o : Oper} {t : Nat} (hi : nthOp ops i = some o) (ht : o.dst = some t) : t ∈ dstsOf ops := by
  induction ops generalizing i with
  | nil => simp [nthOp] at hi
  | cons x r ih =>
    cases i with
    | zero => simp only [nthOp, Option.some.injEq] at hi; subst hi; simp [dstsOf, ht]
    | succ i =>
      have := ih hi
      simp only [dstsOf]
      cases x.dst <;> simp [this]
theorem dstIx_spec {ops : List Oper} (hn : nodupN (dstsOf ops) = true) {i : Nat} {o : Oper} {t : Nat} (hi : nthOp ops i = some o) (ht : o.dst = some t) : ∀ n, dstIx t ops n = some (n + i) := by
  induction ops generalizing i with
  | nil => simp [nthOp] at hi
  | cons x r ih =>
    intro n
    cases i with
    | zero => simp only [nthOp, Option.some.injEq] at hi; subst hi; simp [dstIx, ht, beq_self]
    | succ i =>
      have hm := dstsOf_mem (ops := r) hi ht
      cases hx : x.dst with
      | none =>
        simp only [dstsOf, hx] at hn
        simp only [dstIx, hx]
        rw [ih hn hi]; congr 1; omega
      | some d =>
        simp only [dstsOf, hx, nodupN] at hn
        cases hmem : memN d (dstsOf r) with
        | true => rw [hmem] at hn; cases hn
        | false =>
          rw [hmem] at hn
          have hne : t ≠ d := fun e => by subst e; rw [memN_iff.2 hm] at hmem; cases hmem
          simp only [dstIx, hx, beq_false.2 hne, cond_false]
          rw [ih hn hi]; congr 1; omega
theorem grdOf_spec {ops : List Oper} (hn : nodupN (dstsOf ops) = true) {i : Nat} {o : Oper} {t : Nat} (hi : nthOp ops i = some o) (ht : o.dst = some t) : grdOf ops t = chainOf ops i := by
  unfold grdOf; rw [dstIx_spec hn hi ht 0]; simp
theorem dst_unique {ops : List Oper} (hn : nodupN (dstsOf ops) = true) {i j : Nat} {o o' : Oper} {t : Nat} (hi : nthOp ops i = some o) (hj : nthOp ops j = some o') (ht : o.dst = some t) (ht' : o'.dst = some t) : i = j := by
  have h1 := dstIx_spec hn hi ht 0
  have h2 := dstIx_spec hn hj ht' 0
  rw [h1] at h2; injection h2; omega

theorem boolEqB_iff {a b : Bool} : boolEqB a b = true ↔ a = b := by cases a <;> cases b <;> decide
theorem inGrd_iff {p : Nat × Bool} {l : List (Nat × Bool)} : inGrd p l = true ↔ p ∈ l := by
  induction l with
  | nil => simp [inGrd]
  | cons q r ih =>
    simp only [inGrd, List.mem_cons]
    cases h : (Nat.beq p.1 q.1 && boolEqB p.2 q.2) with
    | true =>
      simp only [Bool.and_eq_true] at h
      simp [Prod.ext_iff, beq_iff.1 h.1, boolEqB_iff.1 h.2]
    | false =>
      have : p ≠ q := fun e => by subst e; simp [beq_self, boolEqB_iff.2 rfl] at h
      simp [ih, this]
theorem subGrd_iff {l m : List (Nat × Bool)} : subGrd l m = true ↔ ∀ p ∈ l, p ∈ m := by
  induction l with
  | nil => simp [subGrd]
  | cons q r ih =>
    simp only [subGrd, List.forall_mem_cons]
    cases h : inGrd q m with
    | true => simp [ih, inGrd_iff.1 h]
    | false =>
      have : q ∉ m := fun e => by rw [inGrd_iff.2 e] at h; cases h
      simp [this]
theorem dropGrd_mem {p q : Nat × Bool} {l : List (Nat × Bool)} (h : q ∈ l) (hne : q ≠ p) : q ∈ dropGrd p l := by
  induction l with
  | nil => cases h
  | cons x r ih =>
    simp only [dropGrd]
    cases hx : (Nat.beq p.1 x.1 && boolEqB p.2 x.2) with
    | true =>
      simp only [Bool.and_eq_true] at hx
      have hpx : p = x := Prod.ext (beq_iff.1 hx.1) (boolEqB_iff.1 hx.2)
      rcases List.mem_cons.1 h with h | h
      · exact absurd (h.trans hpx.symm) hne
      · exact ih h
    | false =>
      rcases List.mem_cons.1 h with h | h
      · subst h; exact List.mem_cons_self
      · exact List.mem_cons_of_mem _ (ih h)

theorem eval_put_same {a : Act} {t : Nat} {v : Value} (h : t < a.tmps.size) : (a.put (some t) v).eval (.tmp t) = v := by
  simp [Act.eval, Act.put, Array.getD_eq_getD_getElem?, Array.getElem?_setIfInBounds, h]
theorem eval_put_other {a : Act} {d : Option Nat} {v : Value} {t : Nat} (h : d ≠ some t) : (a.put d v).eval (.tmp t) = a.eval (.tmp t) :=
  Act.eval_put fun d' hd => by subst hd; intro e; injection e with e; subst e; exact h rfl
theorem size_put {a : Act} {d : Option Nat} {v : Value} : (a.put d v).tmps.size = a.tmps.size := by cases d <;> simp [Act.put]
theorem defers_put {a : Act} {d : Option Nat} {v : Value} : (a.put d v).defers = a.defers := by cases d <;> rfl

/-- How state and memory stand while a region runs: done tells the operations behind us. -/
structure RI (E : Env) (X : Nat → Prop) (w0 : World) (Mx : Mem) (pv : Nat → Option Value) (ops : List Oper) (done : Nat → Prop) (st : St) (a : Act) (w : World) : Prop where
  ex : ∃ ι M, HRel E.tt X w0 Mx ι M st.objs w ∧ ∀ t s, st.slots t = some s → (∀ i o, done i → nthOp ops i = some o → o.dst = some t → HoldsL a (chainOf ops i)) → SVRel E.tt ι M s (a.eval (.tmp t))
  gi : ∀ i o t b, done i → nthOp ops i = some o → o.dst = some t → a.eval (.tmp t) = .bool b → HoldsL a (chainOf ops i)
  closed : ∀ i o j w, done i → nthOp ops i = some o → o.guard = some (j, w) → done j
  wf : WF st
  size : a.tmps.size = st.n
  defers : a.defers = []
  pin : ∀ p v, pv p = some v → a.eval (.tmp p) = v

section
variable {E : Env} {X : Nat → Prop} {w0 w : World} {Mx : Mem} {pv : Nat → Option Value} {ops : List Oper} {done : Nat → Prop} {st : St} {a : Act} {draw : Bool}

theorem yielded_iff {ops : Array Oper} {j : Nat} {oj : Oper} {t : Nat} (hj : ops[j]? = some oj) (ht : oj.dst = some t) {a : Act} {b : Bool} : yielded ops a.tmps j = some b ↔ a.eval (.tmp t) = .bool b := by
  unfold yielded Act.eval
  simp only [hj, Option.bind_some, ht, Array.getD_eq_getD_getElem?]
  cases a.tmps[t]? with
  | none => simp [undef]
  | some v => cases v <;> simp

/-- An operation is carried out just where all its guards hold. -/
theorem wanted_iff {ops : Array Oper} (hg : guardsOk ops.toList draw = true) (hgi : ∀ i o t b, done i → nthOp ops.toList i = some o → o.dst = some t → a.eval (.tmp t) = .bool b → HoldsL a (chainOf ops.toList i))
    {i : Nat} {o : Oper} (hi : nthOp ops.toList i = some o) (hdep : ∀ j w, o.guard = some (j, w) → done j) : Region.wanted o (yielded ops a.tmps) = true ↔ HoldsL a (chainOf ops.toList i) := by
  unfold Region.wanted
  cases hgd : o.guard with
  | none => simp only [chain_none hi hgd]; exact ⟨fun _ p hp => (by cases hp), fun _ => by trivial⟩
  | some g =>
    obtain ⟨j, w⟩ := g
    obtain ⟨oj, t, hj, ht, hlt, hc, _⟩ := guards_spec hg hi hgd
    rw [hc]
    simp only [beq_iff_eq]
    rw [yielded_iff (by rw [← nthOp_toList]; exact hj) ht]
    constructor
    · intro h p hp
      rcases List.mem_cons.1 hp with rfl | hp
      · exact h
      · exact hgi j oj t w (hdep j w hgd) hj ht h p hp
    · intro h; exact h (t, w) List.mem_cons_self

variable (hn : nodupN (dstsOf ops) = true)

include hn in
theorem slot_rel {ι : Nat → Value} {M : Mem} (hs : ∀ t s, st.slots t = some s → (∀ i o, done i → nthOp ops i = some o → o.dst = some t → HoldsL a (chainOf ops i)) → SVRel E.tt ι M s (a.eval (.tmp t)))
    {t : Nat} {s : SV} (h : st.slots t = some s) (hL : HoldsL a (grdOf ops t)) : SVRel E.tt ι M s (a.eval (.tmp t)) :=
  hs t s h fun i o _ hi ht => by rw [← grdOf_spec hn hi ht]; exact hL
include hn in
theorem ev_rel {ι : Nat → Value} {M : Mem} (hs : ∀ t s, st.slots t = some s → (∀ i o, done i → nthOp ops i = some o → o.dst = some t → HoldsL a (chainOf ops i)) → SVRel E.tt ι M s (a.eval (.tmp t)))
    {L : List (Nat × Bool)} (hL : HoldsL a L) (hconst : ∀ v s, constSV v = some s → SVRel E.tt ι M s v) {x : Operand} {s : SV} (h : ev st ops L x = some s) : SVRel E.tt ι M s (a.eval x) := by
  cases x with
  | tmp t =>
    replace h := cond_some.1 h
    exact slot_rel hn hs h.2 fun p hp => hL p (subGrd_iff.1 h.1 p hp)
  | const v => exact hconst v s h
  | _ => cases h
include hn in
theorem evPick_rel {ι : Nat → Value} {M : Mem} (hs : ∀ t s, st.slots t = some s → (∀ i o, done i → nthOp ops i = some o → o.dst = some t → HoldsL a (chainOf ops i)) → SVRel E.tt ι M s (a.eval (.tmp t)))
    {L : List (Nat × Bool)} (hL : HoldsL a L) (hconst : ∀ v s, constSV v = some s → SVRel E.tt ι M s v) {x : Operand} {s : SV} {c : Nat} {b : Bool} (hc : a.eval (.tmp c) = .bool b) (h : evPick st ops L c b x = some s) : SVRel E.tt ι M s (a.eval x) := by
  cases x with
  | tmp t =>
    replace h := cond_some.1 h
    refine slot_rel hn hs h.2 fun p hp => ?_
    by_cases e : p = (c, b)
    · subst e; exact hc
    · exact hL p (subGrd_iff.1 h.1 p (dropGrd_mem hp e))
  | const v => exact hconst v s h
  | _ => cases h

include hn in
/-- Guards in the state and in memory. -/
theorem guardB_iff (hg : guardsOk ops draw = true) {ι : Nat → Value} {M : Mem} (hs : ∀ t s, st.slots t = some s → (∀ i o, done i → nthOp ops i = some o → o.dst = some t → HoldsL a (chainOf ops i)) → SVRel E.tt ι M s (a.eval (.tmp t))) :
    ∀ n i o, i < n → nthOp ops i = some o → guardsThere st (chainOf ops i) = true → (guardB st (chainOf ops i) = true ↔ HoldsL a (chainOf ops i)) := by
  intro n
  induction n with
  | zero => intro i o h; omega
  | succ n ih =>
    intro i o hin hi hth
    cases hgd : o.guard with
    | none => rw [chain_none hi hgd]; exact ⟨fun _ p hp => (by cases hp), fun _ => rfl⟩
    | some g =>
      obtain ⟨j, w⟩ := g
      obtain ⟨oj, t, hj, ht, hlt, hc, _⟩ := guards_spec hg hi hgd
      rw [hc] at hth ⊢
      simp only [guardsThere] at hth
      split at hth
      case h_2 => cases hth
      case h_1 d hst =>
        have hih := ih j oj (by omega) hj hth
        have hval : HoldsL a (chainOf ops j) → a.eval (.tmp t) = .bool d.toBool := by
          intro hL
          have := slot_rel hn hs hst (by rw [grdOf_spec hn hj ht]; exact hL)
          exact (Rep.inv_bool this).1
        have hhead : guardB st ((t, w) :: chainOf ops j) = true ↔ (d.toBool = w ∧ guardB st (chainOf ops j) = true) := by
          cases hcj : chainOf ops j with
          | nil => simp only [guardB, hst, boolEqB_iff]; simp
          | cons q r => simp only [guardB, hst, Bool.and_eq_true, boolEqB_iff]
        rw [hhead, hih]
        constructor
        · rintro ⟨h1, h2⟩ p hp
          rcases List.mem_cons.1 hp with rfl | hp
          · rw [hval h2, h1]
          · exact h2 p hp
        · intro h
          have h2 : HoldsL a (chainOf ops j) := fun p hp => h p (List.mem_cons_of_mem _ hp)
          refine ⟨?_, h2⟩
          have h3 := h (t, w) List.mem_cons_self
          simp only at h3
          rw [hval h2] at h3; injection h3

end
end Go.Proofs.YthbncndefigidaaDoor.DS

namespace Go.Proofs.YthbncndefigidaaDoor.DS

theorem SVRel0.congr {tt : TT} {ι ι' : Nat → Value} {M M' : Mem} {s : SV} {v : Value} (h : SVRel0 tt ι M s v) (hι : ∀ i, i ∈ refs0 s → ι' i = ι i) (hM : ∀ ad v, M ad = some v → M' ad = some v) : SVRel0 tt ι' M' s v := by
  cases s with
  | val k d => exact Rep.mono hM h
  | nil => exact h
  | eptr k d =>
    obtain ⟨ad, u, t, ti, h1, h2, h3, h4, h5, h6⟩ := h
    exact ⟨ad, u, t, ti, h1, h2, h3, h4, h5.mono hM, fun j c hj => hM _ _ (h6 j c hj)⟩
  | bptr i u off k =>
    obtain ⟨h1, b, h2, h3⟩ := h
    exact ⟨h1, b, by rw [hι i (by simp [refs0])]; exact h2, h3⟩
  | optr i e n off k =>
    obtain ⟨h1, b, n, cap, ei, h2, h3, h4⟩ := h
    exact ⟨h1, b, n, cap, ei, h2, by rw [hι i (by simp [refs0])]; exact h3, h4⟩
  | own i =>
    show v = ι' i ∧ ∃ a n c, ι' i = .slice a n c
    rw [hι i (by simp [refs0])]; exact h
  | tup l => exact h
  | sag _ _ l => exact h
  | selfn i =>
    rcases h with h | ⟨b, h1, h2⟩
    · exact .inl h
    · exact .inr ⟨b, by rw [hι i (by simp [refs0])]; exact h1, h2⟩
  | clo f i =>
    obtain ⟨b, h1, h2⟩ := h
    exact ⟨b, by rw [hι i (by simp [refs0])]; exact h1, h2⟩
  | mp i =>
    obtain ⟨b, h1, h2⟩ := h
    exact ⟨b, by rw [hι i (by simp [refs0])]; exact h1, h2⟩
  | gone => exact h
theorem SVRel.congr {tt : TT} {ι ι' : Nat → Value} {M M' : Mem} {s : SV} {v : Value} (h : SVRel tt ι M s v) (hι : ∀ i, i ∈ refsOf s → ι' i = ι i) (hM : ∀ ad v, M ad = some v → M' ad = some v) : SVRel tt ι' M' s v := by
  cases s with
  | tup l =>
    obtain ⟨vs, h1, h2, h3⟩ := h
    exact ⟨vs, h1, h2, fun i s x hs hx => (h3 i s x hs hx).congr (fun j hj => hι j (mem_refsL.2 ⟨s, List.mem_of_getElem? hs, hj⟩)) hM⟩
  | val k d => exact Rep.mono hM h
  | nil => exact h
  | eptr k d => exact SVRel0.congr (ι := ι) (ι' := ι') (s := .eptr k d) h (fun i hi => by cases hi) hM
  | bptr i u off k => exact SVRel0.congr (M := M) (s := .bptr i u off k) h hι hM
  | optr i e n off k => exact SVRel0.congr (M := M) (s := .optr i e n off k) h hι hM
  | own i => exact SVRel0.congr (tt := tt) (M := M) (s := .own i) h hι hM
  | selfn i => exact SVRel0.congr (tt := tt) (M := M) (s := .selfn i) h hι hM
  | clo f i => exact SVRel0.congr (tt := tt) (M := M) (s := .clo f i) h hι hM
  | mp i => exact SVRel0.congr (tt := tt) (M := M) (s := .mp i) h hι hM
  | sag t ks l =>
    obtain ⟨ti, vs, h1, h2, h3, h4, h5, h6, h7⟩ := h
    exact ⟨ti, vs, h1, h2, h3, h4, h5, h6, fun i s x hs hx => (h7 i s x hs hx).congr (fun j hj => hι j (mem_refsL.2 ⟨s, List.mem_of_getElem? hs, hj⟩)) hM⟩
  | gone => trivial
theorem ArrRel.congr {tt : TT} {M M' : Mem} {w w' : World} {e : TypeId} {ei : TI} {v : Value} {es : List D} (h : ArrRel tt M w e ei v es) (hM : ∀ ad v, M ad = some v → M' ad = some v) (hh : ∀ b, blockOf v = some b → w'.heap[b]? = w.heap[b]?) : ArrRel tt M' w' e ei v es := by
  rcases h with h | ⟨b, cap, cur, t, fr, vs, h1, h2, h3, h4, h5, h6, h7⟩
  · exact .inl h
  · refine .inr ⟨b, cap, cur, t, fr, vs, h1, by rw [hh b (by rw [h1]; rfl)]; exact h2, h3, h4, h5, h6, fun i hi => ?_⟩
    obtain ⟨q1, q2, q3⟩ := h7 i hi
    exact ⟨q1, q2, q3.mono hM⟩
theorem ObjRel.congr {tt : TT} {ι ι' : Nat → Value} {M M' : Mem} {w w' : World} {i : Nat} {o : Obj} (h : ObjRel tt ι M w i o) (hi : ι' i = ι i) (hι : ∀ j, j ∈ objRefs0 o → ι' j = ι j) (hM : ∀ ad v, M ad = some v → M' ad = some v)
    (hh : ∀ b, blockOf (ι i) = some b → w'.heap[b]? = w.heap[b]?) : ObjRel tt ι' M' w' i o := by
  cases o with
  | arr e es =>
    obtain ⟨ei, h1, h2, h3⟩ := h
    exact ⟨ei, h1, h2, by rw [hi]; exact h3.congr hM hh⟩
  | box t c =>
    obtain ⟨ti, b, cs, h1, h2, h3, h4⟩ := h
    refine ⟨ti, b, cs, h1, by rw [hi]; exact h2, by rw [hh b (by rw [h2]; rfl)]; exact h3, ?_⟩
    cases c with
    | whole d => exact ⟨h4.1, h4.2.mono hM⟩
    | cells l =>
      obtain ⟨h5, h6, h7⟩ := h4
      exact ⟨h5, h6, fun j s c hs hc => (h7 j s c hs hc).congr (fun k hk => hι k (mem_refsL.2 ⟨s, List.mem_of_getElem? hs, hk⟩)) hM⟩
  | map t kvs =>
    obtain ⟨ti, k, e, ki, ei, b, es, clock, q1, q2, q3, q4, q5, q6, q7, h1, h2, h3⟩ := h
    exact ⟨ti, k, e, ki, ei, b, es, clock, q1, q2, q3, q4, q5, q6, q7, by rw [hi]; exact h1, by rw [hh b (by rw [h1]; rfl)]; exact h2, h3.mono hM⟩

theorem putAll_eq (f : Nat → Option Obj) (os : List (Nat × Obj)) (i : Nat) : putAll f os i = match lk i os with | some o => some o | none => f i := by
  induction os with
  | nil => rfl
  | cons p r ih =>
    obtain ⟨id, o⟩ := p
    simp only [putAll, put, lk]
    cases h : Nat.beq i id with
    | true => rfl
    | false => simp only [cond_false]; exact ih
theorem freshAll_spec {st : St} {os : List (Nat × Obj)} (h : freshAll st os = true) {i : Nat} {o : Obj} (hi : lk i os = some o) : st.objs i = none := by
  induction os with
  | nil => cases hi
  | cons p r ih =>
    obtain ⟨id, o'⟩ := p
    simp only [freshAll] at h
    cases hf : fresh st id with
    | false => rw [hf] at h; cases h
    | true =>
      rw [hf] at h
      simp only [lk] at hi
      cases hb : Nat.beq i id with
      | true =>
        have := beq_iff.1 hb; subst this
        unfold fresh at hf
        split at hf
        · cases hf
        · assumption
      | false => rw [hb] at hi; exact ih h hi

def joinι (os : List (Nat × Obj)) (ι ι2 : Nat → Value) (i : Nat) : Value := match lk i os with | some _ => ι2 i | none => ι i

/-- The caller's objects and the callee's. -/
theorem HRel.merge {tt : TT} {X : Nat → Prop} {w0 w w' : World} {Mx M M' : Mem} {ι ι2 : Nat → Value} {objs : Nat → Option Obj} {os : List (Nat × Obj)} (H : HRel tt X w0 Mx ι M objs w)
    (R : HRel tt (fun _ => False) w M ι2 M' (fun i => lk i os) w') (hf : ∀ i o, lk i os = some o → objs i = none) (hcells : ∀ j o, objs j = some o → ∀ i, i ∈ objRefs0 o → ∃ o', objs i = some o')
    (hno : ∀ i o, lk i os = some o → objRefs0 o = []) : HRel tt X w0 Mx (joinι os ι ι2) M' (putAll objs os) w' := by
  have hcase : ∀ i o, putAll objs os i = some o → (lk i os = some o ∧ joinι os ι ι2 i = ι2 i) ∨ (lk i os = none ∧ objs i = some o ∧ joinι os ι ι2 i = ι i) := by
    intro i o h
    rw [putAll_eq] at h
    unfold joinι
    cases hl : lk i os with
    | some o' => rw [hl] at h; injection h with h; subst h; exact .inl ⟨rfl, rfl⟩
    | none => rw [hl] at h; exact .inr ⟨rfl, h, rfl⟩
  have hold : ∀ i o, objs i = some o → joinι os ι ι2 i = ι i := by
    intro i o h
    unfold joinι
    cases hl : lk i os with
    | some o' => rw [hf i o' hl] at h; cases h
    | none => rfl
  have hkeep : ∀ b, b < w.heap.size → w'.heap[b]? = w.heap[b]? := fun b hb => R.keep b hb (fun h => h)
  have hge : ∀ i o b, lk i os = some o → blockOf (ι2 i) = some b → w.heap.size ≤ b := by
    intro i o b h1 h2
    rcases (R.own i o b h1 h2).1 with h | h
    · exact h
    · exact h.elim
  refine ⟨?_, ?_, ?_, R.mem, fun ad v h => R.memx ad v (H.memx ad v h), ?_, R.os.trans H.os, R.tape.trans H.tape, R.output.trans H.output, Nat.le_trans H.size R.size, ?_⟩
  · intro i o ho
    rcases hcase i o ho with ⟨h1, h2⟩ | ⟨_, h1, h2⟩
    · exact (R.obj i o h1).congr h2 (fun j hj => by rw [hno i o h1] at hj; cases hj) (fun _ _ h => h) (fun _ _ => rfl)
    · refine (H.obj i o h1).congr h2 (fun j hj => ?_) R.memx (fun b hb => hkeep b ((H.obj i o h1).block_lt hb))
      obtain ⟨o', ho'⟩ := hcells i o h1 j hj
      exact hold j o' ho'
  · intro i j oi oj b hi hj hij hbi hbj
    rcases hcase i oi hi with ⟨h1, h2⟩ | ⟨_, h1, h2⟩ <;> rcases hcase j oj hj with ⟨h3, h4⟩ | ⟨_, h3, h4⟩
    · rw [h2] at hbi; rw [h4] at hbj; exact R.disj i j oi oj b h1 h3 hij hbi hbj
    · rw [h2] at hbi; rw [h4] at hbj
      have := hge i oi b h1 hbi
      have := (H.obj j oj h3).block_lt hbj
      omega
    · rw [h2] at hbi; rw [h4] at hbj
      have := hge j oj b h3 hbj
      have := (H.obj i oi h1).block_lt hbi
      omega
    · rw [h2] at hbi; rw [h4] at hbj; exact H.disj i j oi oj b h1 h3 hij hbi hbj
  · intro i o b hi hb
    rcases hcase i o hi with ⟨h1, h2⟩ | ⟨_, h1, h2⟩
    · rw [h2] at hb
      obtain ⟨_, q2⟩ := R.own i o b h1 hb
      exact ⟨.inl (Nat.le_trans H.size (hge i o b h1 hb)), q2⟩
    · rw [h2] at hb
      obtain ⟨q1, q2⟩ := H.own i o b h1 hb
      refine ⟨q1, fun off sp => ?_⟩
      have hlt := (H.obj i o h1).block_lt hb
      rw [R.memB ⟨b, off, sp⟩ hlt (fun h => h)]
      exact q2 off sp
  · intro ad hb hX
    rw [R.memB ad (Nat.lt_of_lt_of_le hb H.size) (fun h => h)]
    exact H.memB ad hb hX
  · intro b hb hX
    rw [hkeep b (Nat.lt_of_lt_of_le hb H.size)]
    exact H.keep b hb hX

/-- Results that lie in memory. -/
theorem resSV_spec : ∀ (rs : List RM) (base j : Nat) (ds : List D) svs os, resSV rs base j ds = some (svs, os) →
    (∀ i o, lk i os = some o → objRefs0 o = []) ∧ (∀ s ∈ svs, ∀ i, i ∈ refs0 s → ∃ o, lk i os = some o) ∧ (∀ t, .tup t ∉ svs) ∧ svs.length = rs.length ∧ ∀ t ks l, .sag t ks l ∉ svs := by
  intro rs
  induction rs with
  | nil =>
    intro base j ds svs os h
    injection h with h; injection h with h1 h2; subst h1 h2
    exact ⟨fun i o h => (by cases h), fun s h => (by cases h), fun t h => (by cases h), rfl, fun t ks l h => by cases h⟩
  | cons r rs ih =>
    intro base j ds svs os h
    cases r with
    | val k =>
      simp only [resSV] at h
      obtain ⟨x, hx, h⟩ := opt_some.1 h
      injection h with h; injection h with h1 h2; subst h1 h2
      obtain ⟨q1, q2, q3, q4, q5⟩ := ih base (j + 1) ds _ _ hx
      refine ⟨q1, ?_, ?_, by simp [q4], fun t ks l h => by simp at h; exact q5 t ks l h⟩
      · intro s hs i hi
        rcases List.mem_cons.1 hs with rfl | hs
        · cases hi
        · exact q2 s hs i hi
      · intro t ht
        rcases List.mem_cons.1 ht with ht | ht
        · cases ht
        · exact q3 t ht
    | any =>
      simp only [resSV] at h
      obtain ⟨x, hx, h⟩ := opt_some.1 h
      injection h with h; injection h with h1 h2; subst h1 h2
      obtain ⟨q1, q2, q3, q4, q5⟩ := ih base (j + 1) ds _ _ hx
      refine ⟨q1, ?_, ?_, by simp [q4], fun t ks l h => by simp at h; exact q5 t ks l h⟩
      · intro s hs i hi
        rcases List.mem_cons.1 hs with rfl | hs
        · cases hi
        · exact q2 s hs i hi
      · intro t ht
        rcases List.mem_cons.1 ht with ht | ht
        · cases ht
        · exact q3 t ht
    | own e =>
      simp only [resSV] at h
      obtain ⟨x, hx, h⟩ := opt_some.1 h
      injection h with h; injection h with h1 h2; subst h1 h2
      obtain ⟨q1, q2, q3, q4, q5⟩ := ih base (j + 1) ds _ _ hx
      refine ⟨?_, ?_, ?_, by simp [q4], fun t ks l h => by simp at h; exact q5 t ks l h⟩
      · intro i o h
        simp only [lk] at h
        cases hb : Nat.beq i (base + j) with
        | true => rw [hb] at h; simp only [cond_true] at h; injection h with h; subst h; rfl
        | false => rw [hb] at h; exact q1 i o h
      · intro s hs i hi
        rcases List.mem_cons.1 hs with rfl | hs
        · simp only [refs0, List.mem_singleton] at hi
          subst hi
          exact ⟨Obj.arr e (ds.getD j .no).toList, by simp only [lk, beq_self, cond_true]⟩
        · obtain ⟨o, ho⟩ := q2 s hs i hi
          simp only [lk]
          cases hb : Nat.beq i (base + j) with
          | true => exact ⟨_, rfl⟩
          | false => exact ⟨o, ho⟩
      · intro t ht
        rcases List.mem_cons.1 ht with ht | ht
        · cases ht
        · exact q3 t ht

abbrev oneSV := oneV

/-- What a call leaves to which nothing was handed over. -/
def RetV (E : Env) (w : World) (M : Mem) (rs : List RM) (ds : List D) (v : Value) (w' : World) : Prop :=
  ∀ base svs os, resSV rs base 0 ds = some (svs, os) → ∃ ι M', HRel E.tt (fun _ => False) w M ι M' (fun i => lk i os) w' ∧ SVRel E.tt ι M' (oneSV svs) v
/-- The boxes among the parameters, under the caller's numbers. -/
def boxesP (bid : Nat → Nat) : Nat → List PM → List (Nat × TypeId × List CK)
  | _, [] => []
  | i, .box t cs :: r => (bid i, t, cs) :: boxesP bid (i + 1) r
  | i, _ :: r => boxesP bid (i + 1) r
/-- What a call leaves. -/
def RetOK (E : Env) (X : Nat → Prop) (w : World) (M : Mem) (ps : List PM) (rs : List RM) (vs : List Value) (ds : List D) (v : Value) (w' : World) : Prop :=
  ∀ base (bid : Nat → Nat) svs os, resSV rs base 0 ds = some (svs, os) → nodupL (keysN (os ++ boxObjs (boxesP bid 0 ps) rs.length ds)) = true →
    ∃ ι M', HRel E.tt X w M ι M' (fun i => lk i (os ++ boxObjs (boxesP bid 0 ps) rs.length ds)) w' ∧ SVRel E.tt ι M' (oneSV svs) v ∧ (∀ i, i ∈ refsOf (oneSV svs) → ∃ o, lk i os = some o) ∧ ∀ p t cs, ps[p]? = some (.box t cs) → vs[p]? = some (ι (bid p))
def ArgsRep (tt : TT) (M : Mem) : List PM → List Value → List D → Prop
  | [], [], [] => True
  | .val k :: ps, v :: vs, d :: ds => Rep tt M k v d ∧ ArgsRep tt M ps vs ds
  | .ref k :: ps, v :: vs, d :: ds => SVRel0 tt (fun _ => undef) M (.eptr k d) v ∧ ArgsRep tt M ps vs ds
  | _, _, _ => False
/-- Arguments: what the callee begins with. -/
def ArgsOK (E : Env) (X : Nat → Prop) (w : World) (M : Mem) (ps : List PM) (vs : List Value) (ds : List D) : Prop :=
  vs.length = ps.length ∧ ∃ sl os ι, paramSt ps 0 ds = some (sl, os) ∧ HRel E.tt X w M ι M (fun i => lk i os) w ∧ (∀ t s, lk t sl = some s → (∃ v, vs[t]? = some v ∧ SVRel E.tt ι M s v) ∧ ∀ i, i ∈ refsOf s → ∃ o, lk i os = some o) ∧
    ∀ j o, lk j os = some o → ∀ i, i ∈ objRefs0 o → ∃ o', lk i os = some o'
def CallsF (P : Program) (f : Nat) (args : Array Value) (w : World) (R : Value → World → Prop) : Prop :=
  ((callFunc f args).run P w = .ok (.enter f args) w ∧ Calls P f args w (fun | .returned v, w' => R v w' | _, _ => False)) ∨ ∃ v w', (callFunc f args).run P w = .ok (.value v) w' ∧ R v w'
theorem CallsF.mono {P : Program} {f : Nat} {args : Array Value} {w : World} {R R' : Value → World → Prop} (h : CallsF P f args w R) (hR : ∀ v w', R v w' → R' v w') : CallsF P f args w R' := by
  rcases h with ⟨h1, h2⟩ | ⟨v, w', h1, h2⟩
  · refine .inl ⟨h1, h2.mono fun e w' he => ?_⟩
    cases e with
    | returned v => exact hR v w' he
    | panicked c => exact he
    | outgrown => exact he
  · exact .inr ⟨v, w', h1, hR v w' h2⟩
/-- The first blocks are as they were when the law was called. -/
structure Same (W0 w : World) : Prop where
  size : W0.heap.size ≤ w.heap.size
  os : w.os = W0.os
  tape : w.tape = W0.tape
  output : w.output = W0.output
  heap : ∀ b, b < W0.heap.size → w.heap[b]? = W0.heap[b]?
theorem Same.refl (w : World) : Same w w := ⟨Nat.le_refl _, rfl, rfl, rfl, fun _ _ => rfl⟩
theorem HRel.same {tt : TT} {X : Nat → Prop} {W0 w0 w : World} {Mx M : Mem} {ι : Nat → Value} {objs : Nat → Option Obj} (H : HRel tt X w0 Mx ι M objs w) (hS : Same W0 w0) (hX : ∀ b, X b → W0.heap.size ≤ b) : Same W0 w :=
  ⟨Nat.le_trans hS.size H.size, H.os.trans hS.os, H.tape.trans hS.tape, H.output.trans hS.output, fun b hb => by
    rw [H.keep b (Nat.lt_of_lt_of_le hb hS.size) (fun h => by have := hX b h; omega), hS.heap b hb]⟩
def CallOK (P : Program) (E : Env) (W0 : World) (callk : Nat → List D → R) : Prop := ∀ f sg ds r, lk f E.sigs = some sg → callk f ds = some r →
  ∀ (w : World) (M : Mem) (vs : List Value) (X : Nat → Prop), Same W0 w → (∀ b, X b → W0.heap.size ≤ b) → ArgsOK E X w M sg.params vs ds → CallsF P f vs.toArray w (RetOK E X w M sg.outs sg.results vs r)

theorem HRel.start {tt : TT} {X : Nat → Prop} {w : World} {M : Mem} {ι : Nat → Value} (hM : ∀ ad v, M ad = some v → w.cell? ad = some v) : HRel tt X w M ι M (fun _ => none) w :=
  ⟨fun id o h => (by cases h), fun id id2 o o2 b h => (by cases h), fun id o b h => (by cases h), hM, fun _ _ h => h, fun _ _ _ => rfl, rfl, rfl, rfl, Nat.le_refl _, fun _ _ _ => rfl⟩
theorem argsRep_len {tt : TT} {M : Mem} : ∀ {ps : List PM} {vs : List Value} {ds : List D}, ArgsRep tt M ps vs ds → vs.length = ps.length := by
  intro ps
  induction ps with
  | nil =>
    intro vs ds h
    cases vs with
    | nil => rfl
    | cons _ _ => cases ds <;> exact h.elim
  | cons p ps ih =>
    intro vs ds h
    cases p with
    | val k =>
      cases vs with
      | nil => cases ds <;> exact h.elim
      | cons v vs =>
        cases ds with
        | nil => exact h.elim
        | cons d ds => simp [ih h.2]
    | ref k =>
      cases vs with
      | nil => cases ds <;> exact h.elim
      | cons v vs =>
        cases ds with
        | nil => exact h.elim
        | cons d ds => simp [ih h.2]
    | _ => cases vs <;> cases ds <;> exact h.elim
theorem param_vals {tt : TT} {M : Mem} {ι : Nat → Value} : ∀ (ps : List PM) (i : Nat) (vs : List Value) (ds : List D), ArgsRep tt M ps vs ds →
    ∃ sl, paramSt ps i ds = some (sl, []) ∧ ∀ t s, lk t sl = some s → i ≤ t ∧ (∃ v, vs[t - i]? = some v ∧ SVRel tt ι M s v) ∧ refsOf s = [] := by
  intro ps
  induction ps with
  | nil =>
    intro i vs ds h
    cases vs with
    | nil =>
      cases ds with
      | nil => exact ⟨[], rfl, fun t s h => by cases h⟩
      | cons _ _ => exact h.elim
    | cons _ _ => cases ds <;> exact h.elim
  | cons p ps ih =>
    intro i vs ds h
    cases p with
    | val k =>
      cases vs with
      | nil => cases ds <;> exact h.elim
      | cons v vs =>
        cases ds with
        | nil => exact h.elim
        | cons d ds =>
          obtain ⟨h1, h2⟩ := h
          obtain ⟨sl, q1, q2⟩ := ih (i + 1) vs ds h2
          refine ⟨(i, .val k (canon k d)) :: sl, by simp only [paramSt, q1, opt], fun t s h => ?_⟩
          simp only [lk] at h
          cases hb : Nat.beq t i with
          | true =>
            rw [hb] at h; injection h with h; subst h
            have := beq_iff.1 hb; subst this
            refine ⟨Nat.le_refl _, ⟨v, by simp, ?_⟩, rfl⟩
            show Rep tt M k v (canon k d)
            rw [h1.canon]; exact h1
          | false =>
            rw [hb] at h
            obtain ⟨r1, ⟨v', r2, r3⟩, r4⟩ := q2 t s h
            refine ⟨by omega, ⟨v', ?_, r3⟩, r4⟩
            rw [show t - i = (t - (i + 1)) + 1 by omega, List.getElem?_cons_succ]; exact r2
    | ref k =>
      cases vs with
      | nil => cases ds <;> exact h.elim
      | cons v vs =>
        cases ds with
        | nil => exact h.elim
        | cons d ds =>
          obtain ⟨h1, h2⟩ := h
          obtain ⟨sl, q1, q2⟩ := ih (i + 1) vs ds h2
          refine ⟨(i, .eptr k (canon k d)) :: sl, by simp only [paramSt, q1, opt], fun t s h => ?_⟩
          simp only [lk] at h
          cases hb : Nat.beq t i with
          | true =>
            rw [hb] at h; injection h with h; subst h
            have := beq_iff.1 hb; subst this
            refine ⟨Nat.le_refl _, ⟨v, by simp, ?_⟩, rfl⟩
            obtain ⟨ad, u, t', ti, g1, g2, g3, g4, g5, g6⟩ := h1
            exact ⟨ad, u, t', ti, g1, g2, g3, g4, by rw [g5.canon]; exact g5, g6⟩
          | false =>
            rw [hb] at h
            obtain ⟨r1, ⟨v', r2, r3⟩, r4⟩ := q2 t s h
            refine ⟨by omega, ⟨v', ?_, r3⟩, r4⟩
            rw [show t - i = (t - (i + 1)) + 1 by omega, List.getElem?_cons_succ]; exact r2
    | _ => cases vs <;> cases ds <;> exact h.elim
theorem argsOK_of {E : Env} {X : Nat → Prop} {w : World} {M : Mem} {ps : List PM} {vs : List Value} {ds : List D} (h : ArgsRep E.tt M ps vs ds) (hM : ∀ ad v, M ad = some v → w.cell? ad = some v) : ArgsOK E X w M ps vs ds := by
  obtain ⟨sl, h1, h2⟩ := param_vals (ι := fun _ => undef) ps 0 vs ds h
  refine ⟨argsRep_len h, sl, [], fun _ => undef, h1, HRel.start hM, fun t s ht => ?_, fun j o h => by cases h⟩
  obtain ⟨_, ⟨v, q1, q2⟩, q3⟩ := h2 t s ht
  exact ⟨⟨v, by simpa using q1, q2⟩, fun i hi => by rw [q3] at hi; cases hi⟩
theorem resSV_keys : ∀ (rs : List RM) (base j : Nat) (ds : List D) svs os, resSV rs base j ds = some (svs, os) → nodupL (keysN os) = true ∧ ∀ k ∈ keysN os, base + j ≤ k := by
  intro rs
  induction rs with
  | nil => intro base j ds svs os h; injection h with h; injection h with h1 h2; subst h1 h2; exact ⟨rfl, fun k hk => by cases hk⟩
  | cons r rs ih =>
    intro base j ds svs os h
    cases r with
    | val k =>
      obtain ⟨x, hx, h⟩ := opt_some.1 h
      injection h with h; injection h with h1 h2; subst h1 h2
      obtain ⟨q1, q2⟩ := ih base (j + 1) ds _ _ hx
      exact ⟨q1, fun k hk => by have := q2 k hk; omega⟩
    | any =>
      obtain ⟨x, hx, h⟩ := opt_some.1 h
      injection h with h; injection h with h1 h2; subst h1 h2
      obtain ⟨q1, q2⟩ := ih base (j + 1) ds _ _ hx
      exact ⟨q1, fun k hk => by have := q2 k hk; omega⟩
    | own e =>
      obtain ⟨x, hx, h⟩ := opt_some.1 h
      injection h with h; injection h with h1 h2; subst h1 h2
      obtain ⟨q1, q2⟩ := ih base (j + 1) ds _ _ hx
      refine ⟨?_, fun k hk => ?_⟩
      · simp only [keysN, nodupL]
        cases hm : memN (base + j) (keysN x.2) with
        | true => have := q2 _ (memN_iff.1 hm); omega
        | false => exact q1
      · rcases List.mem_cons.1 hk with rfl | hk
        · exact Nat.le_refl _
        · have := q2 k hk; omega
theorem boxesP_vals : ∀ (ps : List PM) (bid : Nat → Nat) (i : Nat), allValP ps = true → boxesP bid i ps = [] := by
  intro ps
  induction ps with
  | nil => intro _ _ _; rfl
  | cons p r ih =>
    intro bid i h
    cases p with
    | val k => exact ih bid (i + 1) h
    | _ => cases h
def noBoxP : List PM → Bool
  | [] => true
  | .box _ _ :: _ => false
  | _ :: r => noBoxP r
theorem boxesP_no : ∀ (ps : List PM) (bid : Nat → Nat) (i : Nat), noBoxP ps = true → boxesP bid i ps = [] := by
  intro ps
  induction ps with
  | nil => intro _ _ _; rfl
  | cons p r ih =>
    intro bid i h
    cases p with
    | box _ _ => cases h
    | _ => exact ih bid (i + 1) h
theorem noBox_of_val : ∀ {ps : List PM}, allValP ps = true → noBoxP ps = true := by
  intro ps
  induction ps with
  | nil => intro _; rfl
  | cons p r ih =>
    intro h
    cases p with
    | val k => exact ih h
    | _ => cases h
theorem noBox_outs {sg : Sig} (h : noBoxP sg.params = true) : noBoxP sg.outs = true := by
  unfold Sig.outs
  cases sg.gone with
  | true => rfl
  | false => exact h
theorem ret_vals {E : Env} {w : World} {M : Mem} {ps : List PM} {rs : List RM} {vs : List Value} {ds : List D} {v : Value} {w' : World} (hp : noBoxP ps = true) (h : RetOK E (fun _ => False) w M ps rs vs ds v w') : RetV E w M rs ds v w' := by
  intro base svs os hr
  have hb := boxesP_no ps (fun _ => 0) 0 hp
  obtain ⟨ι, M', h1, h2, _⟩ := h base (fun _ => 0) svs os hr (by rw [hb]; simp only [boxObjs, List.append_nil]; exact (resSV_keys rs base 0 ds svs os hr).1)
  rw [hb] at h1
  simp only [boxObjs, List.append_nil] at h1
  exact ⟨ι, M', h1, h2⟩
/-- What is flat hangs on no memory. -/
theorem Rep.flat {tt : TT} {M M' : Mem} {k : KT} {v : Value} {d : D} (hk : flatK k = true) (h : Rep tt M k v d) : Rep tt M' k v d := by
  cases h with
  | bool b => exact .bool b
  | int k n h => exact .int k n h
  | str s h => exact .str s h
  | _ => cases hk
theorem ret_flat {E : Env} {w : World} {M M1 : Mem} {rs : List RM} {ds : List D} {v : Value} {w' : World} (hf : flatR rs = true) (hM : ∀ ad v, M ad = some v → M1 ad = some v) (hw : ∀ ad v, M1 ad = some v → w.cell? ad = some v) (h : RetV E w M1 rs ds v w') : RetV E w M rs ds v w' := by
  intro base svs os hr
  obtain ⟨ι, M', H, hv⟩ := h base svs os hr
  have key : ∀ (rs : List RM) (j : Nat) svs os, flatR rs = true → resSV rs base j ds = some (svs, os) → os = [] ∧ ∀ s ∈ svs, ∃ k d, s = .val k d ∧ flatK k = true := by
    intro rs
    induction rs with
    | nil => intro j svs os _ h; injection h with h; injection h with h1 h2; subst h1 h2; exact ⟨rfl, fun s h => by cases h⟩
    | cons r rs ih =>
      intro j svs os hf h
      cases r with
      | own e => cases hf
      | any => cases hf
      | val k =>
        simp only [flatR, Bool.and_eq_true] at hf
        obtain ⟨x, hx, h⟩ := opt_some.1 h
        injection h with h; injection h with h1 h2; subst h1 h2
        obtain ⟨q1, q2⟩ := ih (j + 1) _ _ hf.2 hx
        refine ⟨q1, fun s hs => ?_⟩
        rcases List.mem_cons.1 hs with rfl | hs
        · exact ⟨k, _, rfl, hf.1⟩
        · exact q2 s hs
  obtain ⟨k1, k2⟩ := key rs 0 svs os hf hr
  subst k1
  refine ⟨ι, M, ⟨fun id o h => (by cases h), fun id id2 o o2 b h => (by cases h), fun id o b h => (by cases h), fun ad v h => H.mem ad v (H.memx ad v (hM ad v h)), fun _ _ h => h, fun _ _ _ => rfl, H.os, H.tape, H.output, H.size, H.keep⟩, ?_⟩
  cases svs with
  | nil =>
    obtain ⟨vs, h1, h2, h3⟩ := hv
    exact ⟨vs, h1, h2, fun i s x hs => by simp at hs⟩
  | cons s r =>
    obtain ⟨k, d, rfl, hk⟩ := k2 s List.mem_cons_self
    cases r with
    | nil => exact Rep.flat hk hv
    | cons s2 r =>
      obtain ⟨vs, h1, h2, h3⟩ := hv
      refine ⟨vs, h1, h2, fun i s x hs hx => ?_⟩
      obtain ⟨k', d', e, hk'⟩ := k2 s (List.mem_of_getElem? hs)
      subst e
      exact Rep.flat hk' (h3 i _ x hs hx)

/-- What an operation leaves, in the state and in memory. -/
structure Left (E : Env) (X : Nat → Prop) (w0 : World) (Mx : Mem) (ι : Nat → Value) (M : Mem) (st s : St) (w' : World) (v : SV) (u : Value) : Prop where
  ex : ∃ ι' M', HRel E.tt X w0 Mx ι' M' s.objs w' ∧ (∀ t s1, s.slots t = some s1 → ∃ s0, st.slots t = some s0 ∧ ∀ v0, SVRel E.tt ι M s0 v0 → SVRel E.tt ι' M' s1 v0) ∧ SVRel E.tt ι' M' v u
  n : s.n = st.n
  wf : WF s
  refs : ∀ i, i ∈ refsOf v → ∃ o, s.objs i = some o

theorem refs_oneSV {svs : List SV} (h : ∀ t, .tup t ∉ svs) (h2 : ∀ t ks l, .sag t ks l ∉ svs) {i : Nat} (hi : i ∈ refsOf (oneSV svs)) : ∃ s ∈ svs, i ∈ refs0 s := by
  cases svs with
  | nil => cases hi
  | cons s r =>
    cases r with
    | nil =>
      refine ⟨s, List.mem_cons_self, ?_⟩
      cases s with
      | tup t => exact absurd List.mem_cons_self (h t)
      | sag t ks l => exact absurd List.mem_cons_self (h2 t ks l)
      | _ => exact hi
    | cons s2 r => exact mem_refsL.1 hi

theorem WF.putAll {st : St} {os : List (Nat × Obj)} (hwf : WF st) (hno : ∀ i o, lk i os = some o → objRefs0 o = []) : WF { st with objs := putAll st.objs os } := by
  have hin : ∀ i o, st.objs i = some o → ∃ o', DS.putAll st.objs os i = some o' := by
    intro i o h
    rw [putAll_eq]
    cases lk i os with
    | some o' => exact ⟨o', rfl⟩
    | none => exact ⟨o, h⟩
  constructor
  · intro t s hs i hi
    obtain ⟨o, ho⟩ := hwf.slots t s hs i hi
    exact hin i o ho
  · intro j o hj i hi
    simp only [putAll_eq] at hj
    cases hl : lk j os with
    | some o' =>
      rw [hl] at hj; injection hj with hj; subst hj
      rw [hno j _ hl] at hi; cases hi
    | none =>
      rw [hl] at hj
      obtain ⟨o', ho'⟩ := hwf.cells j o hj i hi
      exact hin i o' ho'

/-- A call's end. -/
theorem ret_left {E : Env} {X : Nat → Prop} {w0 w w' : World} {Mx M : Mem} {ι : Nat → Value} {st : St} (H : HRel E.tt X w0 Mx ι M st.objs w) (hwf : WF st) {rs : List RM} {ds : List D} {v : Value} (hr : RetV E w M rs ds v w')
    {dst : Option Nat} {u : Upd} (hu : resUpd st rs dst ds = some u) : u.ob = none ∧ Left E X w0 Mx ι M st { st with objs := putAll st.objs u.obs } w' u.v v := by
  have key : ∀ base svs os, resSV rs base 0 ds = some (svs, os) → freshAll st os = true → ∃ ι' M', HRel E.tt X w0 Mx ι' M' (putAll st.objs os) w' ∧ (∀ t s1, st.slots t = some s1 → ∃ s0, st.slots t = some s0 ∧ ∀ v0, SVRel E.tt ι M s0 v0 → SVRel E.tt ι' M' s1 v0) ∧ SVRel E.tt ι' M' (oneSV svs) v ∧
      WF { st with objs := putAll st.objs os } ∧ ∀ i, i ∈ refsOf (oneSV svs) → ∃ o, putAll st.objs os i = some o := by
    intro base svs os hx hfr
    obtain ⟨ι2, M', HR, hv⟩ := hr base svs os hx
    obtain ⟨q1, q2, q3, q4, q5⟩ := resSV_spec rs base 0 ds svs os hx
    have hf : ∀ i o, lk i os = some o → st.objs i = none := fun i o h => freshAll_spec hfr h
    refine ⟨joinι os ι ι2, M', H.merge HR hf hwf.cells q1, ?_, ?_, hwf.putAll q1, ?_⟩
    · intro t s1 hs1
      refine ⟨s1, hs1, fun v0 h0 => h0.congr (fun i hi => ?_) HR.memx⟩
      obtain ⟨o, ho⟩ := hwf.slots t s1 hs1 i hi
      unfold joinι
      cases hl : lk i os with
      | some o' => rw [hf i o' hl] at ho; cases ho
      | none => rfl
    · refine hv.congr (fun i hi => ?_) (fun _ _ h => h)
      obtain ⟨s, hs, hi⟩ := refs_oneSV q3 q5 hi
      obtain ⟨o, ho⟩ := q2 s hs i hi
      unfold joinι; rw [ho]
    · intro i hi
      obtain ⟨s, hs, hi⟩ := refs_oneSV q3 q5 hi
      obtain ⟨o, ho⟩ := q2 s hs i hi
      rw [putAll_eq, ho]; exact ⟨o, rfl⟩
  have gone : allValR rs = true → Left E X w0 Mx ι M st { st with objs := putAll st.objs [] } w' .gone v := by
    intro hv
    obtain ⟨svs, hx, _, _⟩ := resSV_vals rs 0 0 ds hv
    obtain ⟨ι', M', k1, k2, k3, k4, k5⟩ := key 0 svs [] hx rfl
    exact ⟨⟨ι', M', k1, k2, trivial⟩, rfl, k4, fun i hi => by cases hi⟩
  unfold resUpd at hu
  cases dst with
  | none =>
    cases rs with
    | nil => injection hu with hu; subst hu; exact ⟨rfl, gone rfl⟩
    | cons r rs =>
      simp only at hu
      obtain ⟨x, hx, hu⟩ := opt_some.1 hu
      obtain ⟨hv, hu⟩ := cond_some.1 hu
      injection hu with hu; subst hu
      exact ⟨rfl, gone hv⟩
  | some t =>
    simp only at hu
    split at hu
    · rename_i r
      obtain ⟨x, hx, hu⟩ := opt_some.1 hu
      obtain ⟨hfr, hu⟩ := cond_some.1 hu
      split at hu
      · rename_i s hs
        injection hu with hu; subst hu
        obtain ⟨ι', M', k1, k2, k3, k4, k5⟩ := key t x.1 x.2 hx hfr
        rw [hs] at k3 k5
        exact ⟨rfl, ⟨ι', M', k1, k2, k3⟩, rfl, k4, k5⟩
      · cases hu
    · rename_i hne
      obtain ⟨x, hx, hu⟩ := opt_some.1 hu
      obtain ⟨hfr, hu⟩ := cond_some.1 hu
      injection hu with hu; subst hu
      obtain ⟨ι', M', k1, k2, k3, k4, k5⟩ := key _ x.1 x.2 hx hfr
      have hlen := (resSV_spec rs _ 0 ds x.1 x.2 hx).2.2.2.1
      have : oneSV x.1 = .tup x.1 := by
        cases hx1 : x.1 with
        | nil => rfl
        | cons s r =>
          cases r with
          | nil =>
            exfalso
            rw [hx1] at hlen
            cases rs with
            | nil => simp at hlen
            | cons r rs =>
              cases rs with
              | nil => exact hne r rfl
              | cons _ _ => simp at hlen
          | cons _ _ => rfl
      rw [this] at k3 k5
      exact ⟨rfl, ⟨ι', M', k1, k2, k3⟩, rfl, k4, k5⟩

end Go.Proofs.YthbncndefigidaaDoor.DS

namespace Go.Proofs.YthbncndefigidaaDoor.DS

section
variable {P : Program} {E : Env} {X : Nat → Prop} {w0 w w' : World} {Mx : Mem} {pv : Nat → Option Value} {ops : List Oper} {done : Nat → Prop} {st : St} {a : Act} {draw : Bool}

theorem chain_mem (hg : guardsOk ops draw = true) (hcl : ∀ i o j w, done i → nthOp ops i = some o → o.guard = some (j, w) → done j) :
    ∀ n k o, k < n → nthOp ops k = some o → (∀ j w, o.guard = some (j, w) → done j) → ∀ p ∈ chainOf ops k, ∃ j oj, done j ∧ nthOp ops j = some oj ∧ oj.dst = some p.1 := by
  intro n
  induction n with
  | zero => intro k o h; omega
  | succ n ih =>
    intro k o hk ho hd p hp
    cases hgd : o.guard with
    | none => rw [chain_none ho hgd] at hp; cases hp
    | some g =>
      obtain ⟨j, w⟩ := g
      obtain ⟨oj, t, hj, ht, hlt, hc, _⟩ := guards_spec hg ho hgd
      rw [hc] at hp
      rcases List.mem_cons.1 hp with rfl | hp
      · exact ⟨j, oj, hd j w hgd, hj, ht⟩
      · exact ih j oj (by omega) hj (fun j' w' h' => hcl j oj j' w' (hd j w hgd) hj h') p hp

/-- A step of a region. -/
theorem ri_step (hn : nodupN (dstsOf ops) = true) (hg : guardsOk ops draw = true) {i : Nat} {o : Oper} (hi : nthOp ops i = some o) (hnd : ¬ done i) (hdep : ∀ j w, o.guard = some (j, w) → done j)
    {ι : Nat → Value} {M : Mem} (hs : ∀ t s, st.slots t = some s → (∀ i o, done i → nthOp ops i = some o → o.dst = some t → HoldsL a (chainOf ops i)) → SVRel E.tt ι M s (a.eval (.tmp t)))
    (hgi : ∀ i o t b, done i → nthOp ops i = some o → o.dst = some t → a.eval (.tmp t) = .bool b → HoldsL a (chainOf ops i))
    (hcl : ∀ i o j w, done i → nthOp ops i = some o → o.guard = some (j, w) → done j)
    (hsz : a.tmps.size = st.n) (hdf : a.defers = []) (hpin : ∀ p v, pv p = some v → a.eval (.tmp p) = v) (hpd : ∀ t, o.dst = some t → pv t = none)
    {s st' : St} {v : SV} {u : Value} (hl : ∃ ι' M', HRel E.tt X w0 Mx ι' M' s.objs w' ∧ (∀ t s1, s.slots t = some s1 → ∃ s0, st.slots t = some s0 ∧ ∀ v0, SVRel E.tt ι M s0 v0 → SVRel E.tt ι' M' s1 v0) ∧ (HoldsL a (chainOf ops i) → SVRel E.tt ι' M' v u))
    (hsn : s.n = st.n) (hwf : WF s) (hvr : ∀ i, i ∈ refsOf v → ∃ o, s.objs i = some o) (hub : ∀ b, u = .bool b → HoldsL a (chainOf ops i)) (hput : putSlot s o.dst v = some st') :
    RI E X w0 Mx pv ops (fun k => done k ∨ k = i) st' (a.put o.dst u) w' := by
  have hne : ∀ j oj t, done j → nthOp ops j = some oj → oj.dst = some t → o.dst ≠ some t := by
    intro j oj t hj hoj ht e
    have := dst_unique hn hoj hi ht e
    subst this; exact hnd hj
  have hchain : ∀ k ok, (done k ∨ k = i) → nthOp ops k = some ok → (HoldsL (a.put o.dst u) (chainOf ops k) ↔ HoldsL a (chainOf ops k)) := by
    intro k ok hk hok
    have hd : ∀ j w, ok.guard = some (j, w) → done j := by
      rcases hk with hk | rfl
      · exact fun j w h => hcl k ok j w hk hok h
      · rw [hi] at hok; injection hok with hok; subst hok; exact hdep
    have hm := chain_mem hg hcl (k + 1) k ok (by omega) hok hd
    have : ∀ p ∈ chainOf ops k, (a.put o.dst u).eval (.tmp p.1) = a.eval (.tmp p.1) := by
      intro p hp
      obtain ⟨j, oj, h1, h2, h3⟩ := hm p hp
      exact eval_put_other (hne j oj p.1 h1 h2 h3)
    constructor
    · intro h p hp; rw [← this p hp]; exact h p hp
    · intro h p hp; rw [this p hp]; exact h p hp
  have hst' : st'.n = s.n ∧ st'.objs = s.objs ∧ (∀ t, o.dst ≠ some t → st'.slots t = s.slots t) ∧ (∀ t, o.dst = some t → st'.slots t = some v ∧ t < s.n) := by
    unfold putSlot at hput
    split at hput
    · rename_i hd
      injection hput with hput; subst hput
      exact ⟨rfl, rfl, fun _ _ => rfl, fun t h => by rw [hd] at h; cases h⟩
    · rename_i d hd
      obtain ⟨hb, hput⟩ := cond_some.1 hput
      injection hput with hput; subst hput
      refine ⟨rfl, rfl, fun t h => put_other _ _ _ (fun e => h (by rw [hd, e])), fun t h => ?_⟩
      rw [hd] at h; injection h with h; subst h
      exact ⟨put_same _ _ _, Nat.le_of_ble_eq_true hb⟩
  obtain ⟨e1, e2, e3, e4⟩ := hst'
  obtain ⟨ι', M', H', hslots, hv⟩ := hl
  refine ⟨⟨ι', M', by rw [e2]; exact H', ?_⟩, ?_, ?_, ?_, ?_, ?_, fun p v hp => by
    rw [eval_put_other (fun e => by have := hpd p e; rw [hp] at this; cases this)]; exact hpin p v hp⟩
  · intro t s1 hs1 hcond
    by_cases ht : o.dst = some t
    · obtain ⟨h1, h2⟩ := e4 t ht
      rw [h1] at hs1; injection hs1 with hs1; subst hs1
      rw [ht, eval_put_same (by rw [hsz, ← hsn]; exact h2)]
      exact hv ((hchain i o (.inr rfl) hi).1 (hcond i o (.inr rfl) hi ht))
    · rw [e3 t ht] at hs1
      obtain ⟨s0, h0, h1⟩ := hslots t s1 hs1
      rw [eval_put_other ht]
      refine h1 _ (hs t s0 h0 fun j oj hj hoj hjt => ?_)
      exact (hchain j oj (.inl hj) hoj).1 (hcond j oj (.inl hj) hoj hjt)
  · intro j oj t b hj hoj hjt hb
    rw [hchain j oj hj hoj]
    rcases hj with hj | rfl
    · rw [eval_put_other (hne j oj t hj hoj hjt)] at hb
      exact hgi j oj t b hj hoj hjt hb
    · rw [hi] at hoj; injection hoj with hoj; subst hoj
      obtain ⟨_, h2⟩ := e4 t hjt
      rw [hjt, eval_put_same (by rw [hsz, ← hsn]; exact h2)] at hb
      exact hub b hb
  · intro k ok j w hk hok hgd
    rcases hk with hk | rfl
    · exact .inl (hcl k ok j w hk hok hgd)
    · rw [hi] at hok; injection hok with hok; subst hok
      exact .inl (hdep j w hgd)
  · constructor
    · intro t s1 hs1 j hj
      rw [e2]
      by_cases ht : o.dst = some t
      · rw [(e4 t ht).1] at hs1; injection hs1 with hs1; subst hs1; exact hvr j hj
      · rw [e3 t ht] at hs1; exact hwf.slots t s1 hs1 j hj
    · intro j ob hj k hk
      rw [e2] at hj ⊢
      exact hwf.cells j ob hj k hk
  · rw [size_put, hsz, e1, hsn]
  · rw [defers_put]; exact hdf

end
end Go.Proofs.YthbncndefigidaaDoor.DS

namespace Go.Proofs.YthbncndefigidaaDoor.DS

theorem nodupL_iff {l : List Nat} : nodupL l = true ↔ l.Nodup := by
  induction l with
  | nil => simp [nodupL]
  | cons x r ih =>
    simp only [nodupL, List.nodup_cons]
    cases h : memN x r with
    | true => simp [memN_iff.1 h]
    | false => simp [ih, memN_false h]
theorem lk_keysN {α : Type} {i : Nat} {l : List (Nat × α)} : (∃ o, lk i l = some o) ↔ i ∈ keysN l := by
  induction l with
  | nil => simp [lk, keysN]
  | cons p r ih =>
    obtain ⟨t, x⟩ := p
    simp only [lk, keysN, List.mem_cons]
    cases h : Nat.beq i t with
    | true => simp [beq_iff.1 h]
    | false => simp [ih, beq_false.1 h]
theorem lk_app {α : Type} {i : Nat} {l m : List (Nat × α)} : lk i (l ++ m) = match lk i l with | some x => some x | none => lk i m := by
  induction l with
  | nil => rfl
  | cons p r ih =>
    obtain ⟨t, x⟩ := p
    simp only [List.cons_append, lk]
    cases h : Nat.beq i t with
    | true => rfl
    | false => simp only [cond_false]; exact ih
theorem omap_some {α β : Type} {f : α → β} {x : Option α} {b : β} : omap f x = some b ↔ ∃ a, x = some a ∧ b = f a := by
  cases x with
  | none => simp [omap]
  | some a => simp [omap, eq_comm]

section
variable {tt : TT} {X : Nat → Prop} {w0 w : World} {Mx : Mem} {ι : Nat → Value} {M : Mem}

/-- What is left of a state whose row has been handed over. -/
structure Dropped (tt : TT) (X : Nat → Prop) (w0 : World) (Mx : Mem) (ι : Nat → Value) (M : Mem) (w : World) (rows : List Nat) (st st' : St) : Prop where
  rel : HRel tt X w0 Mx ι M st'.objs w
  wf : WF st'
  n : st'.n = st.n
  slots : ∀ t s1, st'.slots t = some s1 → ∃ s0, st.slots t = some s0 ∧ ∀ v0, SVRel tt ι M s0 v0 → SVRel tt ι M s1 v0
  there : ∀ i o', st'.objs i = some o' → i ∉ rows ∧ ∃ o, st.objs i = some o
  kept : ∀ i, i ∉ rows → (∃ o, st.objs i = some o) → ∃ o, st'.objs i = some o

theorem drop_one {st : St} (H : HRel tt X w0 Mx ι M st.objs w) (hwf : WF st) (id : Nat) : Dropped tt X w0 Mx ι M w [id] st (st.dropRow id) := by
  have hobj : ∀ i o', (st.dropRow id).objs i = some o' → i ≠ id ∧ ∃ o, st.objs i = some o ∧ o' = scrubObj id o := by
    intro i o' h
    by_cases hi : i = id
    · subst hi; simp [St.dropRow, put_same] at h
    · simp only [St.dropRow, put_other _ _ _ hi] at h
      exact ⟨hi, omap_some.1 h⟩
  have hin : ∀ i o, i ≠ id → st.objs i = some o → ∃ o', (st.dropRow id).objs i = some o' := by
    intro i o hi ho
    exact ⟨scrubObj id o, by simp only [St.dropRow, put_other _ _ _ hi, ho, omap]⟩
  refine ⟨⟨?_, ?_, ?_, H.mem, H.memx, H.memB, H.os, H.tape, H.output, H.size, H.keep⟩, ⟨?_, ?_⟩, rfl, ?_, ?_, ?_⟩
  · intro i o' h
    obtain ⟨hi, o, ho, rfl⟩ := hobj i o' h
    have := (H.obj i o ho).scrub (id := id) (x := ι id) hi (fun _ _ => rfl)
    rwa [put_self] at this
  · intro i j oi oj b hi hj hij hbi hbj
    obtain ⟨_, o1, h1, _⟩ := hobj i oi hi
    obtain ⟨_, o2, h2, _⟩ := hobj j oj hj
    exact H.disj i j o1 o2 b h1 h2 hij hbi hbj
  · intro i o' b h hb
    obtain ⟨_, o, ho, _⟩ := hobj i o' h
    exact H.own i o b ho hb
  · intro t s h i hi
    obtain ⟨s0, h0, rfl⟩ := omap_some.1 (show omap (scrubS id) (st.slots t) = some s from h)
    obtain ⟨h1, h2⟩ := refs_scrub hi
    obtain ⟨o, ho⟩ := hwf.slots t s0 h0 i h1
    exact hin i o h2 ho
  · intro j o' h i hi
    obtain ⟨_, o, ho, rfl⟩ := hobj j o' h
    obtain ⟨h1, h2⟩ := refs_scrubObj hi
    obtain ⟨o2, ho2⟩ := hwf.cells j o ho i h1
    exact hin i o2 h2 ho2
  · intro t s1 h
    obtain ⟨s0, h0, rfl⟩ := omap_some.1 (show omap (scrubS id) (st.slots t) = some s1 from h)
    refine ⟨s0, h0, fun v0 hv => ?_⟩
    have := hv.scrub id (ι id)
    rwa [put_self] at this
  · intro i o' h
    obtain ⟨hi, o, ho, _⟩ := hobj i o' h
    exact ⟨by simpa using hi, o, ho⟩
  · intro i hi ⟨o, ho⟩
    exact hin i o (by simpa using hi) ho
theorem drop_all : ∀ (rows : List Nat) {st : St}, HRel tt X w0 Mx ι M st.objs w → WF st → Dropped tt X w0 Mx ι M w rows st (dropRows rows st) := by
  intro rows
  induction rows with
  | nil => intro st H hwf; exact ⟨H, hwf, rfl, fun t s1 h => ⟨s1, h, fun _ h => h⟩, fun i o h => ⟨by simp, o, h⟩, fun i _ h => h⟩
  | cons id r ih =>
    intro st H hwf
    have h1 := drop_one H hwf id
    have h2 := ih h1.rel h1.wf
    refine ⟨h2.rel, h2.wf, h2.n.trans h1.n, ?_, ?_, ?_⟩
    · intro t s1 h
      obtain ⟨s0, q1, q2⟩ := h2.slots t s1 h
      obtain ⟨s, q3, q4⟩ := h1.slots t s0 q1
      exact ⟨s, q3, fun v0 hv => q2 v0 (q4 v0 hv)⟩
    · intro i o' h
      obtain ⟨q1, o, q2⟩ := h2.there i o' h
      obtain ⟨q3, o2, q4⟩ := h1.there i o q2
      refine ⟨?_, o2, q4⟩
      intro hi
      rcases List.mem_cons.1 hi with rfl | hi
      · exact q3 (by simp)
      · exact q1 hi
    · intro i hi ho
      exact h2.kept i (fun h => hi (List.mem_cons_of_mem _ h)) (h1.kept i (fun h => hi (by simp at h; subst h; exact List.mem_cons_self)) ho)

/-- The caller's objects and what came back of those that were handed over. -/
theorem HRel.merge2 {w' : World} {M' : Mem} {ι2 : Nat → Value} {objs : Nat → Option Obj} {os : List (Nat × Obj)} {hs : List Nat} {Xh : Nat → Prop} (H : HRel tt X w0 Mx ι M objs w)
    (R : HRel tt Xh w M ι2 M' (fun i => lk i os) w') (hXo : ∀ b, Xh b → w0.heap.size ≤ b ∨ X b) (hXd : ∀ b, Xh b → ∀ i o, objs i = some o → i ∉ hs → blockOf (ι i) ≠ some b)
    (hf : ∀ i o, lk i os = some o → i ∈ hs ∨ objs i = none) (hall : ∀ i, i ∈ hs → ∃ o, lk i os = some o) (hbox : ∀ i, i ∈ hs → ι2 i = ι i)
    (hcells : ∀ j o, objs j = some o → ∀ i, i ∈ objRefs0 o → ∃ o', objs i = some o') (hos : ∀ j o, lk j os = some o → ∀ i, i ∈ objRefs0 o → ∃ o', lk i os = some o') :
    HRel tt X w0 Mx (joinι os ι ι2) M' (putAll objs os) w' ∧ ∀ i, (∃ o, objs i = some o) → joinι os ι ι2 i = ι i := by
  have hcase : ∀ i o, putAll objs os i = some o → (lk i os = some o ∧ joinι os ι ι2 i = ι2 i) ∨ (lk i os = none ∧ objs i = some o ∧ joinι os ι ι2 i = ι i ∧ i ∉ hs) := by
    intro i o h
    rw [putAll_eq] at h
    unfold joinι
    cases hl : lk i os with
    | some o' => rw [hl] at h; injection h with h; subst h; exact .inl ⟨rfl, rfl⟩
    | none =>
      rw [hl] at h
      refine .inr ⟨rfl, h, rfl, fun hi => ?_⟩
      obtain ⟨o', ho'⟩ := hall i hi
      rw [hl] at ho'; cases ho'
  have hold : ∀ i, (∃ o, objs i = some o) → joinι os ι ι2 i = ι i := by
    intro i ⟨o, h⟩
    unfold joinι
    cases hl : lk i os with
    | some o' =>
      rcases hf i o' hl with hi | hi
      · exact hbox i hi
      · rw [hi] at h; cases h
    | none => rfl
  have hin : ∀ i o, lk i os = some o → joinι os ι ι2 i = ι2 i := by
    intro i o h; unfold joinι; rw [h]
  have hkeep : ∀ b, b < w.heap.size → ¬ Xh b → w'.heap[b]? = w.heap[b]? := fun b hb hx => R.keep b hb hx
  refine ⟨⟨?_, ?_, ?_, R.mem, fun ad v h => R.memx ad v (H.memx ad v h), ?_, R.os.trans H.os, R.tape.trans H.tape, R.output.trans H.output, Nat.le_trans H.size R.size, ?_⟩, hold⟩
  · intro i o ho
    rcases hcase i o ho with ⟨h1, h2⟩ | ⟨_, h1, h2, h3⟩
    · exact (R.obj i o h1).congr h2 (fun j hj => by obtain ⟨o', ho'⟩ := hos i o h1 j hj; exact hin j o' ho') (fun _ _ h => h) (fun _ _ => rfl)
    · refine (H.obj i o h1).congr h2 (fun j hj => hold j (hcells i o h1 j hj)) R.memx (fun b hb => hkeep b ((H.obj i o h1).block_lt hb) (fun hx => hXd b hx i o h1 h3 hb))
  · intro i j oi oj b hi hj hij hbi hbj
    have hmix : ∀ i j oi oj, lk i os = some oi → objs j = some oj → j ∉ hs → blockOf (ι2 i) = some b → blockOf (ι j) ≠ some b := by
      intro i j oi oj h1 h3 h5 hbi hbj
      rcases (R.own i oi b h1 hbi).1 with h | h
      · have := (H.obj j oj h3).block_lt hbj; omega
      · exact hXd b h j oj h3 h5 hbj
    rcases hcase i oi hi with ⟨h1, h2⟩ | ⟨_, h1, h2, h5⟩ <;> rcases hcase j oj hj with ⟨h3, h4⟩ | ⟨_, h3, h4, h6⟩
    · rw [h2] at hbi; rw [h4] at hbj; exact R.disj i j oi oj b h1 h3 hij hbi hbj
    · rw [h2] at hbi; rw [h4] at hbj; exact hmix i j oi oj h1 h3 h6 hbi hbj
    · rw [h2] at hbi; rw [h4] at hbj; exact hmix j i oj oi h3 h1 h5 hbj hbi
    · rw [h2] at hbi; rw [h4] at hbj; exact H.disj i j oi oj b h1 h3 hij hbi hbj
  · intro i o b hi hb
    rcases hcase i o hi with ⟨h1, h2⟩ | ⟨_, h1, h2, h3⟩
    · rw [h2] at hb
      obtain ⟨q1, q2⟩ := R.own i o b h1 hb
      refine ⟨?_, q2⟩
      rcases q1 with q1 | q1
      · exact .inl (Nat.le_trans H.size q1)
      · exact hXo b q1
    · rw [h2] at hb
      obtain ⟨q1, q2⟩ := H.own i o b h1 hb
      refine ⟨q1, fun off sp => ?_⟩
      have hlt := (H.obj i o h1).block_lt hb
      rw [R.memB ⟨b, off, sp⟩ hlt (fun hx => hXd b hx i o h1 h3 hb)]
      exact q2 off sp
  · intro ad hb hX
    have hnx : ¬ Xh ad.block := fun hx => by
      rcases hXo _ hx with h | h
      · omega
      · exact hX h
    rw [R.memB ad (Nat.lt_of_lt_of_le hb H.size) hnx]
    exact H.memB ad hb hX
  · intro b hb hX
    have hnx : ¬ Xh b := fun hx => by
      rcases hXo _ hx with h | h
      · omega
      · exact hX h
    rw [hkeep b (Nat.lt_of_lt_of_le hb H.size) hnx]
    exact H.keep b hb hX
end
end Go.Proofs.YthbncndefigidaaDoor.DS

namespace Go.Proofs.YthbncndefigidaaDoor.DS

/-- The callee's handles. -/
def ιc (w : World) (vs : List Value) (id : Nat) : Value :=
  if id < 600000 then vs.getD id undef else match vs.getD ((id - 600000) / 64) undef with
    | .pointer (some ad) => (w.cell? ⟨ad.block, (id - 600000) % 64, none⟩).getD undef
    | _ => undef
theorem ιc_param {w : World} {vs : List Value} {p : Nat} {v : Value} (h : vs[p]? = some v) (hp : p ≤ 1000) : ιc w vs p = v := by
  unfold ιc
  rw [if_pos (by omega), List.getD_eq_getElem?_getD, h]; rfl
theorem ιc_row {w : World} {vs : List Value} {p c : Nat} {b : Nat} {u : Value} (h : vs[p]? = some (.pointer (some ⟨b, 0, none⟩))) (hc : c < 64) (hu : w.cell? ⟨b, c, none⟩ = some u) : ιc w vs (rowId p c) = u := by
  unfold ιc rowId
  rw [if_neg (by omega), show (600000 + 64 * p + c - 600000) / 64 = p by omega, show (600000 + 64 * p + c - 600000) % 64 = c by omega, List.getD_eq_getElem?_getD, h]
  simp [hu]

theorem mkCells_get (id : Nat) : ∀ (cs : List CK) (c : Nat) (d : D) (j : Nat), (mkCells id cs c d)[j]? = (cs[j]?).map fun k => match k with
    | .val k => .val k (canon k (d.cell (c + j)))
    | .row _ => .own (rowId id (c + j))
    | .self => .selfn id := by
  intro cs
  induction cs with
  | nil => intro c d j; simp [mkCells]
  | cons k r ih =>
    intro c d j
    cases j with
    | zero => cases k <;> simp [mkCells]
    | succ j => cases k <;> simp [mkCells, ih, show c + 1 + j = c + (j + 1) by omega]
theorem mkCells_length (id : Nat) : ∀ (cs : List CK) (c : Nat) (d : D), (mkCells id cs c d).length = cs.length := by
  intro cs
  induction cs with
  | nil => intro c d; rfl
  | cons k r ih => intro c d; cases k <;> simp [mkCells, ih]
theorem rowObjs_lk (id : Nat) : ∀ (cs : List CK) (c : Nat) (d : D) (i : Nat) (o : Obj), lk i (rowObjs id cs c d) = some o → ∃ j e, cs[j]? = some (.row e) ∧ i = rowId id (c + j) ∧ o = .arr e (d.cell (c + j)).toList := by
  intro cs
  induction cs with
  | nil => intro c d i o h; cases h
  | cons k r ih =>
    intro c d i o h
    have next : lk i (rowObjs id r (c + 1) d) = some o → ∃ j e, (k :: r)[j]? = some (.row e) ∧ i = rowId id (c + j) ∧ o = .arr e (d.cell (c + j)).toList := by
      intro h
      obtain ⟨j, e, h1, h2, h3⟩ := ih (c + 1) d i o h
      exact ⟨j + 1, e, by simpa using h1, by rw [h2]; congr 1; omega, by rw [h3]; congr 3; omega⟩
    cases k with
    | row e =>
      simp only [rowObjs, lk] at h
      cases hb : Nat.beq i (rowId id c) with
      | true =>
        rw [hb] at h; injection h with h; subst h
        exact ⟨0, e, rfl, by simpa using beq_iff.1 hb, by simp⟩
      | false => rw [hb] at h; exact next h
    | _ => exact next h
theorem rowObjs_there (id : Nat) : ∀ (cs : List CK) (c : Nat) (d : D) (j : Nat) (e : TypeId), cs[j]? = some (.row e) → ∃ o, lk (rowId id (c + j)) (rowObjs id cs c d) = some o := by
  intro cs
  induction cs with
  | nil => intro c d j e h; simp at h
  | cons k r ih =>
    intro c d j e h
    cases j with
    | zero =>
      simp at h; subst h
      exact ⟨.arr e (d.cell c).toList, by simp only [rowObjs, lk, Nat.add_zero, beq_self, cond_true]⟩
    | succ j =>
      obtain ⟨o, ho⟩ := ih (c + 1) d j e (by simpa using h)
      rw [show c + 1 + j = c + (j + 1) by omega] at ho
      cases k with
      | row e' =>
        simp only [rowObjs, lk]
        cases hb : Nat.beq (rowId id (c + (j + 1))) (rowId id c) with
        | true => exact ⟨_, rfl⟩
        | false => exact ⟨o, ho⟩
      | _ => exact ⟨o, ho⟩
theorem mkCells_refs {id : Nat} {cs : List CK} {c : Nat} {d : D} {i : Nat} (h : i ∈ refsL (mkCells id cs c d)) : i = id ∨ ∃ j e, cs[j]? = some (.row e) ∧ i = rowId id (c + j) := by
  obtain ⟨s, hs, hi⟩ := mem_refsL.1 h
  obtain ⟨j, hj⟩ := List.getElem?_of_mem hs
  rw [mkCells_get, Option.map_eq_some_iff] at hj
  obtain ⟨k, hk, rfl⟩ := hj
  cases k with
  | val k => cases hi
  | row e => simp [refs0] at hi; exact .inr ⟨j, e, hk, hi⟩
  | self => simp [refs0] at hi; exact .inl hi

section
variable {P : Program} {E : Env} (hT : TTok P E.tt) {st : St} {ops : List Oper} {a : Act} {w w0 : World} {X : Nat → Prop} {Mx : Mem} {ι : Nat → Value} {M : Mem}

def CellOK (E : Env) (st : St) (ι ιn : Nat → Value) (M : Mem) (w : World) (crs : List (Nat × Nat)) (p c : Nat) (u : Value) (d0 : D) : CK → Prop
  | .val q => Rep E.tt M q u d0
  | .row e => ObjRel E.tt ιn M w (rowId p c) (.arr e d0.toList) ∧ (ιn (rowId p c) = .slice none 0 0 ∨ ∃ i, (rowId p c, i) ∈ crs ∧ (∃ o, st.objs i = some o) ∧ ιn (rowId p c) = ι i) ∧ (∃ x n y, u = .slice x n y) ∧ ιn (rowId p c) = u
  | .self => SVRel0 E.tt ιn M (.selfn p) u
/-- A box's cells. -/
theorem cellArgs_ok (H : HRel E.tt X w0 Mx ι M st.objs w) {ιn : Nat → Value} {id p : Nat} (hid : ιn p = ι id) : ∀ (cs : List CK) (c : Nat) (ss : List SV) (cds : List D) (crs : List (Nat × Nat)) (cc : List Value), cellArgs E st id p c cs ss = some (cds, crs) → cc.length = ss.length →
    (∀ (j : Nat) s u, ss[j]? = some s → cc[j]? = some u → SVRel0 E.tt ι M s u) → (∀ (j : Nat) u, cc[j]? = some u → ιn (rowId p (c + j)) = u) →
    cs.length = ss.length ∧ cds.length = cs.length ∧ ∀ (j : Nat) k s u d0, cs[j]? = some k → ss[j]? = some s → cc[j]? = some u → cds[j]? = some d0 → CellOK E st ι ιn M w crs p (c + j) u d0 k := by
  intro cs
  induction cs with
  | nil =>
    intro c ss cds crs cc h hl hr hi
    cases ss with
    | nil => injection h with h; injection h with h1 h2; subst h1 h2; exact ⟨rfl, rfl, fun j k s u d0 hk => by simp at hk⟩
    | cons _ _ => cases h
  | cons k cs ih =>
    intro c ss cds crs cc h hl hr hi
    cases ss with
    | nil => cases k <;> cases h
    | cons s ss =>
      cases cc with
      | nil => simp at hl
      | cons u cc =>
        have step : ∀ d0 cds' crs' crs0, cellArgs E st id p (c + 1) cs ss = some (cds', crs0) → cds = d0 :: cds' → (∀ x ∈ crs0, x ∈ crs) → crs' = crs → CellOK E st ι ιn M w crs p c u d0 k → (k :: cs).length = (s :: ss).length ∧ cds.length = (k :: cs).length ∧ ∀ (j : Nat) k' s' u' d', (k :: cs)[j]? = some k' → (s :: ss)[j]? = some s' → (u :: cc)[j]? = some u' → cds[j]? = some d' → CellOK E st ι ιn M w crs p (c + j) u' d' k' := by
          intro d0 cds' crs' crs0 hrec hcds hsub _ hhead
          subst hcds
          obtain ⟨q1, q2, q3⟩ := ih (c + 1) ss cds' crs0 cc hrec (by simpa using hl) (fun j s u hs hu => hr (j + 1) s u (by simpa using hs) (by simpa using hu)) (fun j u hu => by
            rw [show c + 1 + j = c + (j + 1) by omega]; exact hi (j + 1) u (by simpa using hu))
          refine ⟨by simp [q1], by simp [q2], fun j k' s' u' d' h1 h2 h3 h4 => ?_⟩
          cases j with
          | zero =>
            simp at h1 h2 h3 h4
            subst h1 h2 h3 h4
            exact hhead
          | succ j =>
            have := q3 j k' s' u' d' (by simpa using h1) (by simpa using h2) (by simpa using h3) (by simpa using h4)
            rw [show c + 1 + j = c + (j + 1) by omega] at this
            cases k' with
            | row e =>
              obtain ⟨r1, r2, r3⟩ := this
              refine ⟨r1, ?_, r3⟩
              rcases r2 with r2 | ⟨i, r4, r5⟩
              · exact .inl r2
              · exact .inr ⟨i, hsub _ r4, r5⟩
            | _ => exact this
        have h0 := hr 0 s u rfl rfl
        have hu0 : ιn (rowId p c) = u := by simpa using hi 0 u rfl
        cases k with
        | val q =>
          simp only [cellArgs] at h
          replace h := opt_some.1 h
          obtain ⟨d, hd, h⟩ := h
          replace h := opt_some.1 h
          obtain ⟨x, hx, h⟩ := h
          injection h with h; injection h with h1 h2; subst h1 h2
          exact step d x.1 x.2 x.2 hx rfl (fun _ h => h) rfl (svD1_rel hd h0)
        | row e =>
          simp only [cellArgs] at h
          cases s with
          | nil =>
            simp only at h
            cases hei : lk e E.tt with
            | none => rw [hei] at h; cases h
            | some ei =>
              rw [hei] at h
              replace h := cond_some.1 h
              obtain ⟨hle, h⟩ := h
              replace h := opt_some.1 h
              obtain ⟨x, hx, h⟩ := h
              injection h with h; injection h with h1 h2; subst h1 h2
              have hu : u = .slice none 0 0 := h0
              refine step (.list []) x.1 x.2 x.2 hx rfl (fun _ h => h) rfl ⟨?_, .inl (by rw [hu0, hu]), ⟨_, _, _, hu⟩, hu0⟩
              exact ⟨ei, hei, Nat.le_of_ble_eq_true hle, .inl ⟨by rw [hu0, hu], rfl⟩⟩
          | own i =>
            simp only at h
            cases hob : st.objs i with
            | none => rw [hob] at h; cases h
            | some o =>
              rw [hob] at h
              cases o with
              | map _ _ => cases h
              | box _ _ => cases h
              | arr e' es =>
                replace h := cond_some.1 h
                obtain ⟨he, h⟩ := h
                have he := beq_iff.1 he
                subst he
                replace h := opt_some.1 h
                obtain ⟨x, hx, h⟩ := h
                injection h with h; injection h with h1 h2; subst h1 h2
                obtain ⟨hu, y1, y2, y3, hy⟩ := h0
                refine step (.list es) x.1 _ x.2 hx rfl (fun _ h => List.mem_cons_of_mem _ h) rfl ⟨?_, .inr ⟨i, List.mem_cons_self, ⟨_, hob⟩, by rw [hu0, hu]⟩, ⟨_, _, _, hu.trans hy⟩, hu0⟩
                obtain ⟨ei, q1, q2, q3⟩ := H.obj i _ hob
                exact ⟨ei, q1, q2, by rw [hu0, hu]; exact q3⟩
          | _ => cases h
        | self =>
          simp only [cellArgs] at h
          cases s with
          | selfn i =>
            simp only at h
            replace h := cond_some.1 h
            obtain ⟨he, h⟩ := h
            have he := beq_iff.1 he
            subst he
            replace h := opt_some.1 h
            obtain ⟨x, hx, h⟩ := h
            injection h with h; injection h with h1 h2; subst h1 h2
            refine step .no x.1 x.2 x.2 hx rfl (fun _ h => h) rfl ?_
            rcases h0 with h0 | ⟨b, h1, h2⟩
            · exact .inl h0
            · exact .inr ⟨b, by rw [hid]; exact h1, h2⟩
          | _ => cases h
end
end Go.Proofs.YthbncndefigidaaDoor.DS

namespace Go.Proofs.YthbncndefigidaaDoor.DS

theorem boxesP_congr {bid bid' : Nat → Nat} : ∀ (ps : List PM) (p : Nat), (∀ q, p ≤ q → bid q = bid' q) → boxesP bid p ps = boxesP bid' p ps := by
  intro ps
  induction ps with
  | nil => intro p h; rfl
  | cons x r ih =>
    intro p h
    cases x with
    | box t cs => simp only [boxesP, h p (Nat.le_refl _), ih (p + 1) (fun q hq => h q (by omega))]
    | _ => exact ih (p + 1) (fun q hq => h q (by omega))
theorem boxIds_mem {bid : Nat → Nat} : ∀ (ps : List PM) (p q : Nat) (t : TypeId) (cs : List CK), ps[q]? = some (.box t cs) → bid (p + q) ∈ boxIds (boxesP bid p ps) := by
  intro ps
  induction ps with
  | nil => intro p q t cs h; simp at h
  | cons x r ih =>
    intro p q t cs h
    cases q with
    | zero => simp at h; subst h; exact List.mem_cons_self
    | succ q =>
      have := ih (p + 1) q t cs (by simpa using h)
      rw [show p + 1 + q = p + (q + 1) by omega] at this
      cases x with
      | box t' cs' => exact List.mem_cons_of_mem _ this
      | _ => exact this
theorem boxIds_inj {bid : Nat → Nat} : ∀ (ps : List PM) (p q q' : Nat) (t t' : TypeId) (cs cs' : List CK), (boxIds (boxesP bid p ps)).Nodup → ps[q]? = some (.box t cs) → ps[q']? = some (.box t' cs') → bid (p + q) = bid (p + q') → q = q' := by
  intro ps
  induction ps with
  | nil => intro p q q' t t' cs cs' _ h; simp at h
  | cons x r ih =>
    intro p q q' t t' cs cs' hn h h' he
    have tail : (boxIds (boxesP bid (p + 1) r)).Nodup := by
      cases x with
      | box _ _ => exact (List.nodup_cons.1 hn).2
      | _ => exact hn
    cases q with
    | zero =>
      cases q' with
      | zero => rfl
      | succ q' =>
        simp at h; subst h
        have := boxIds_mem (bid := bid) r (p + 1) q' t' cs' (by simpa using h')
        rw [show p + 1 + q' = p + (q' + 1) by omega, ← he] at this
        exact absurd this (List.nodup_cons.1 hn).1
    | succ q =>
      cases q' with
      | zero =>
        simp at h'; subst h'
        have := boxIds_mem (bid := bid) r (p + 1) q t cs (by simpa using h)
        rw [show p + 1 + q = p + (q + 1) by omega, he] at this
        exact absurd this (List.nodup_cons.1 hn).1
      | succ q' =>
        have := ih (p + 1) q q' t t' cs cs' tail (by simpa using h) (by simpa using h') (by rw [show p + 1 + q = p + (q + 1) by omega, show p + 1 + q' = p + (q' + 1) by omega]; exact he)
        omega
theorem sndL_mem {rs : List (Nat × Nat)} {a j : Nat} (h : (a, j) ∈ rs) : j ∈ sndL rs := by
  induction rs with
  | nil => cases h
  | cons x r ih =>
    obtain ⟨b, k⟩ := x
    rcases List.mem_cons.1 h with h | h
    · injection h with h1 h2; subst h2; exact List.mem_cons_self
    · exact List.mem_cons_of_mem _ (ih h)
theorem sndL_inj {rs : List (Nat × Nat)} {a b j : Nat} (hn : (sndL rs).Nodup) (h : (a, j) ∈ rs) (h' : (b, j) ∈ rs) : a = b := by
  induction rs with
  | nil => cases h
  | cons x r ih =>
    obtain ⟨c, k⟩ := x
    obtain ⟨h1, h2⟩ := List.nodup_cons.1 (show (k :: sndL r).Nodup from hn)
    rcases List.mem_cons.1 h with g | g <;> rcases List.mem_cons.1 h' with g' | g'
    · injection g with e1 e2; injection g' with e3 e4; omega
    · injection g with e1 e2; subst e2; exact absurd (sndL_mem g') h1
    · injection g' with e1 e2; subst e2; exact absurd (sndL_mem g) h1
    · exact ih h2 g g'

section
variable {P : Program} {E : Env} (hT : TTok P E.tt) {st : St} {ops : List Oper} {a : Act} {w w0 : World} {X : Nat → Prop} {Mx : Mem} {ι : Nat → Value} {M : Mem} {vs : List Value}

structure HArgs (E : Env) (st : St) (w : World) (ι : Nat → Value) (M : Mem) (vs : List Value) (p : Nat) (ps : List PM) (ds : List D) (rs : List (Nat × Nat)) (boxes : List (Nat × TypeId × List CK)) : Prop where
  ex : ∃ sl os, ∃ bid : Nat → Nat, paramSt ps p ds = some (sl, os) ∧
    (∀ t s, lk t sl = some s → (∃ v, vs[t]? = some v ∧ SVRel E.tt (ιc w vs) M s v) ∧ ∀ i, i ∈ refsOf s → ∃ o, lk i os = some o) ∧
    (∀ j o, lk j os = some o → ∀ i, i ∈ objRefs0 o → ∃ o', lk i os = some o') ∧
    (∀ id o, lk id os = some o → ObjRel E.tt (ιc w vs) M w id o ∧ (ιc w vs id = .slice none 0 0 ∨ (∃ i, (id, i) ∈ rs ∧ (∃ o, st.objs i = some o) ∧ ιc w vs id = ι i) ∨ ∃ q t cs, ps[q]? = some (.box t cs) ∧ id = p + q ∧ ιc w vs id = ι (bid (p + q)))) ∧
    boxes = boxesP bid p ps ∧ ∀ q t cs, ps[q]? = some (.box t cs) → (∃ o, st.objs (bid (p + q)) = some o) ∧ vs[p + q]? = some (ι (bid (p + q)))

include hT in
theorem hargs_ind (hev : ∀ x s, ev st ops [] x = some s → SVRel E.tt ι M s (a.eval x)) (H : HRel E.tt X w0 Mx ι M st.objs w) : ∀ (ps : List PM) (p : Nat) (xs : List Operand) ds rs boxes, hargsO E st ops [] p ps xs = some (ds, rs, boxes) →
    (∀ (q : Nat) x, xs[q]? = some x → vs[p + q]? = some (a.eval x)) → xs.length = ps.length ∧ HArgs E st w ι M vs p ps ds rs boxes := by
  intro ps
  induction ps with
  | nil =>
    intro p xs ds rs boxes h _
    cases xs with
    | nil =>
      injection h with h; injection h with h1 h; injection h with h2 h3; subst h1 h2 h3
      exact ⟨rfl, [], [], fun _ => 0, rfl, fun t s h => (by cases h), fun j o h => (by cases h), fun id o h => (by cases h), rfl, fun q t cs h => by simp at h⟩
    | cons _ _ => cases h
  | cons pm ps ih =>
    intro p xs ds rs boxes h hvs
    cases xs with
    | nil => cases pm <;> cases h
    | cons x0 xs =>
      have hv0 : vs[p]? = some (a.eval x0) := hvs 0 x0 rfl
      have hvs' : ∀ (q : Nat) y, xs[q]? = some y → vs[p + 1 + q]? = some (a.eval y) := fun q y hy => by
        rw [show p + 1 + q = p + (q + 1) by omega]; exact hvs (q + 1) y (by simpa using hy)
      have up : ∀ {ps : List PM} {pm : PM} {q : Nat} {t : TypeId} {cs : List CK}, ps[q]? = some (.box t cs) → (pm :: ps)[q + 1]? = some (.box t cs) := fun h => by simpa using h
      cases pm with
      | ref k => cases h
      | val k =>
        simp only [hargsO] at h
        replace h := opt_some.1 h
        obtain ⟨s, hs, h⟩ := h
        replace h := opt_some.1 h
        obtain ⟨d, hd, h⟩ := h
        replace h := opt_some.1 h
        obtain ⟨r, hr, h⟩ := h
        injection h with h; injection h with h1 h; injection h with h2 h3; subst h1 h2 h3
        obtain ⟨hl, sl, os, bid, q1, q2, q3, q4, q5, q6⟩ := ih (p + 1) xs r.1 r.2.1 r.2.2 hr hvs'
        have hrep := svD_rel hd (hev x0 s hs)
        refine ⟨by simp [hl], (p, .val k (canon k d)) :: sl, os, bid, by simp only [paramSt, q1, opt], ?_, q3, ?_, q5, ?_⟩
        · intro t s1 ht
          simp only [lk] at ht
          cases hb : Nat.beq t p with
          | true =>
            rw [hb] at ht; injection ht with ht; subst ht
            have := beq_iff.1 hb; subst this
            refine ⟨⟨_, hv0, ?_⟩, fun i hi => by cases hi⟩
            show Rep E.tt M k _ (canon k d)
            rw [hrep.canon]; exact hrep
          | false => rw [hb] at ht; exact q2 t s1 ht
        · intro id o ho
          obtain ⟨r1, r2⟩ := q4 id o ho
          refine ⟨r1, ?_⟩
          rcases r2 with r2 | r2 | ⟨q, t, cs, r3, r4, r5⟩
          · exact .inl r2
          · exact .inr (.inl r2)
          · exact .inr (.inr ⟨q + 1, t, cs, up r3, by omega, by rw [r5]; congr 2; omega⟩)
        · intro q t cs hq
          cases q with
          | zero => simp at hq
          | succ q =>
            have := q6 q t cs (by simpa using hq)
            rw [show p + (q + 1) = p + 1 + q by omega]; exact this
      | own e =>
        simp only [hargsO] at h
        replace h := opt_some.1 h
        obtain ⟨s, hs, h⟩ := h
        have hsv := hev x0 s hs
        have fin : ∀ es r, hargsO E st ops [] (p + 1) ps xs = some r → ds = .list es :: r.1 → boxes = r.2.2 → (∀ y ∈ r.2.1, y ∈ rs) → p ≤ 1000 → (∃ x n y, a.eval x0 = .slice x n y) → ObjRel E.tt (ιc w vs) M w p (.arr e es) →
            (ιc w vs p = .slice none 0 0 ∨ ∃ i, (p, i) ∈ rs ∧ (∃ o, st.objs i = some o) ∧ ιc w vs p = ι i) → (x0 :: xs).length = (PM.own e :: ps).length ∧ HArgs E st w ι M vs p (.own e :: ps) ds rs boxes := by
          intro es r hr hds hbx hsub hp hsl hob hsrc
          obtain ⟨hl, sl, os, bid, q1, q2, q3, q4, q5, q6⟩ := ih (p + 1) xs r.1 r.2.1 r.2.2 hr hvs'
          subst hds
          have hιp : ιc w vs p = a.eval x0 := ιc_param hv0 hp
          refine ⟨by simp [hl], (p, .own p) :: sl, (p, .arr e es) :: os, bid, by simp only [paramSt, q1, opt, D.toList], ?_, ?_, ?_, by rw [hbx, q5]; rfl, ?_⟩
          · have hin : ∀ i o, lk i os = some o → ∃ o, lk i ((p, Obj.arr e es) :: os) = some o := by
              intro i o ho
              simp only [lk]
              cases hb : Nat.beq i p with
              | true => exact ⟨_, rfl⟩
              | false => exact ⟨o, ho⟩
            intro t s1 ht
            simp only [lk] at ht
            cases hb : Nat.beq t p with
            | true =>
              rw [hb] at ht; injection ht with ht; subst ht
              have := beq_iff.1 hb; subst this
              refine ⟨⟨_, hv0, hιp.symm, by rw [hιp]; exact hsl⟩, fun i hi => ?_⟩
              simp [refsOf, refs0] at hi; subst hi
              exact ⟨.arr e es, by simp only [lk, beq_self, cond_true]⟩
            | false =>
              rw [hb] at ht
              obtain ⟨r1, r2⟩ := q2 t s1 ht
              exact ⟨r1, fun i hi => by obtain ⟨o, ho⟩ := r2 i hi; exact hin i o ho⟩
          · intro j o ho i hi
            simp only [lk] at ho
            cases hb : Nat.beq j p with
            | true => rw [hb] at ho; injection ho with ho; subst ho; cases hi
            | false =>
              rw [hb] at ho
              obtain ⟨o', ho'⟩ := q3 j o ho i hi
              simp only [lk]
              cases hb : Nat.beq i p with
              | true => exact ⟨_, rfl⟩
              | false => exact ⟨o', ho'⟩
          · intro id o ho
            simp only [lk] at ho
            cases hb : Nat.beq id p with
            | true =>
              rw [hb] at ho; injection ho with ho; subst ho
              have := beq_iff.1 hb; subst this
              refine ⟨hob, ?_⟩
              rcases hsrc with h | h
              · exact .inl h
              · exact .inr (.inl h)
            | false =>
              rw [hb] at ho
              obtain ⟨r1, r2⟩ := q4 id o ho
              refine ⟨r1, ?_⟩
              rcases r2 with r2 | ⟨i, r2, r3⟩ | ⟨q, t, cs, r3, r4, r5⟩
              · exact .inl r2
              · exact .inr (.inl ⟨i, hsub _ r2, r3⟩)
              · exact .inr (.inr ⟨q + 1, t, cs, up r3, by omega, by rw [r5]; congr 2; omega⟩)
          · intro q t cs hq
            cases q with
            | zero => simp at hq
            | succ q =>
              have := q6 q t cs (by simpa using hq)
              rw [show p + (q + 1) = p + 1 + q by omega]; exact this
        cases s with
        | nil =>
          simp only at h
          cases hei : lk e E.tt with
          | none => rw [hei] at h; cases h
          | some ei =>
            rw [hei] at h
            replace h := cond_some.1 h
            obtain ⟨hle, h⟩ := h
            simp only [Bool.and_eq_true] at hle
            replace h := opt_some.1 h
            obtain ⟨r, hr, h⟩ := h
            injection h with h; injection h with h1 h; injection h with h2 h3; subst h1 h2 h3
            have hp := Nat.le_of_ble_eq_true hle.2
            have hv : a.eval x0 = .slice none 0 0 := hsv
            have hιp : ιc w vs p = .slice none 0 0 := (ιc_param hv0 hp).trans hv
            exact fin [] r hr rfl rfl (fun _ h => h) hp ⟨_, _, _, hv⟩ ⟨ei, hei, Nat.le_of_ble_eq_true hle.1, .inl ⟨hιp, rfl⟩⟩ (.inl hιp)
        | own i =>
          simp only at h
          cases hob : st.objs i with
          | none => rw [hob] at h; cases h
          | some o =>
            rw [hob] at h
            cases o with
            | map _ _ => cases h
            | box _ _ => cases h
            | arr e' es =>
              replace h := cond_some.1 h
              obtain ⟨he, h⟩ := h
              simp only [Bool.and_eq_true] at he
              have hp := Nat.le_of_ble_eq_true he.2
              have he := beq_iff.1 he.1
              subst he
              replace h := opt_some.1 h
              obtain ⟨r, hr, h⟩ := h
              injection h with h; injection h with h1 h; injection h with h2 h3; subst h1 h2 h3
              obtain ⟨hv, y1, y2, y3, hy⟩ : a.eval x0 = ι i ∧ ∃ a n c, ι i = .slice a n c := hsv
              have hιp : ιc w vs p = ι i := (ιc_param hv0 hp).trans hv
              obtain ⟨ei, g1, g2, g3⟩ := H.obj i _ hob
              exact fin es r hr rfl rfl (fun _ h => List.mem_cons_of_mem _ h) hp ⟨_, _, _, hv.trans hy⟩ ⟨ei, g1, g2, by rw [hιp]; exact g3⟩ (.inr ⟨i, List.mem_cons_self, ⟨_, hob⟩, hιp⟩)
        | _ => cases h
      | box t cs =>
        simp only [hargsO] at h
        replace h := opt_some.1 h
        obtain ⟨s, hs, h⟩ := h
        have hsv := hev x0 s hs
        cases s with
        | bptr i u off k =>
          simp only at h
          replace h := cond_some.1 h
          obtain ⟨hc, h⟩ := h
          simp only [Bool.and_eq_true] at hc
          obtain ⟨hc1, hc2, hc3, hc4, hc5⟩ := hc
          have hc5 := KT.eq_iff.1 hc5
          have hc1 := beq_iff.1 hc1
          have hc2 := beq_iff.1 hc2
          have hc3 := Nat.le_of_ble_eq_true hc3
          have hp := Nat.le_of_ble_eq_true hc4
          subst hc1 hc2
          cases hob : st.objs i with
          | none => rw [hob] at h; cases h
          | some o =>
            rw [hob] at h
            cases o with
            | map _ _ => cases h
            | arr _ _ => cases h
            | box u' c =>
              replace h := cond_some.1 h
              obtain ⟨he, h⟩ := h
              have he := beq_iff.1 he
              subst he
              replace h := opt_some.1 h
              obtain ⟨ti, hti, h⟩ := h
              replace h := opt_some.1 h
              obtain ⟨y, hy, h⟩ := h
              replace h := opt_some.1 h
              obtain ⟨r, hr, h⟩ := h
              injection h with h; injection h with h1 h; injection h with h2 h3; subst h1 h2 h3
              obtain ⟨hl, sl, os, bid, q1, q2, q3, q4, q5, q6⟩ := ih (p + 1) xs r.1 r.2.1 r.2.2 hr hvs'
              obtain ⟨hka, b, hι, hv⟩ := hsv
              obtain ⟨ti', b', cc, hti', hι', hheap, hbc⟩ := H.obj i _ hob
              rw [hti] at hti'; cases hti'
              rw [hι] at hι'; injection hι' with hι'; injection hι' with hι'; injection hι' with hb; subst hb
              obtain ⟨b1, b2, b3⟩ := toCells_rel hT hti hbc
              have hιp : ιc w vs p = .pointer (some ⟨b, 0, none⟩) := (ιc_param hv0 hp).trans hv
              have hcell : ∀ j, w.cell? ⟨b, j, none⟩ = cc[j]? := fun j => by simp [World.cell?, hheap]
              have hv0' : vs[p]? = some (.pointer (some ⟨b, 0, none⟩)) := by rw [hv0, hv]
              have hcsl : cs.length ≤ 64 := hc3
              have hlen0 : cs.length = (c.toCells ti).length := by
                have key : ∀ (cs : List CK) (c0 : Nat) (ss : List SV) z, cellArgs E st i p c0 cs ss = some z → cs.length = ss.length := by
                  intro cs
                  induction cs with
                  | nil => intro c0 ss z h; cases ss with
                    | nil => rfl
                    | cons _ _ => cases h
                  | cons k cs ihc =>
                    intro c0 ss z h
                    cases ss with
                    | nil => cases k <;> cases h
                    | cons s ss =>
                      cases k with
                      | val q =>
                        obtain ⟨_, _, h⟩ := opt_some.1 h
                        obtain ⟨x, hx, _⟩ := opt_some.1 h
                        simp [ihc _ _ _ hx]
                      | row e =>
                        simp only [cellArgs] at h
                        split at h
                        · split at h
                          · replace h := (cond_some.1 h).2
                            obtain ⟨x, hx, _⟩ := opt_some.1 h
                            simp [ihc _ _ _ hx]
                          · cases h
                        · split at h
                          · replace h := (cond_some.1 h).2
                            obtain ⟨x, hx, _⟩ := opt_some.1 h
                            simp [ihc _ _ _ hx]
                          · cases h
                        · cases h
                      | self =>
                        simp only [cellArgs] at h
                        split at h
                        · replace h := (cond_some.1 h).2
                          obtain ⟨x, hx, _⟩ := opt_some.1 h
                          simp [ihc _ _ _ hx]
                        · cases h
                exact key cs 0 _ _ hy
              obtain ⟨d1, d2, d3⟩ := cellArgs_ok (ιn := ιc w vs) H (hιp.trans hι.symm) cs 0 _ y.1 y.2 cc.toList hy (by rw [Array.length_toList, b1, b2]) (fun j s u hs hu => b3 j s u hs (by simpa using hu)) (fun j u hu => by
                rw [Nat.zero_add]
                have hju : cc[j]? = some u := by simpa using hu
                have hjl : j < cc.size := (Array.getElem?_eq_some_iff.1 hju).1
                exact ιc_row hv0' (by omega) (by rw [hcell]; exact hju))
              have hcd : ∀ j d0, y.1[j]? = some d0 → (D.agg y.1).cell j = d0 := fun j d0 h => by
                show y.1.getD j .no = d0
                rw [List.getD_eq_getElem?_getD, h]; rfl
              -- the cells of the box, cell by cell
              have hcellok : ∀ (j : Nat) k, cs[j]? = some k → ∃ s u d0, (c.toCells ti)[j]? = some s ∧ cc[j]? = some u ∧ (D.agg y.1).cell j = d0 ∧ CellOK E st ι (ιc w vs) M w y.2 p j u d0 k := by
                intro j k hk
                have hjl := (List.getElem?_eq_some_iff.1 hk).1
                have h1 : (c.toCells ti)[j]? = some ((c.toCells ti)[j]'(by omega)) := List.getElem?_eq_getElem (by omega)
                have h2 : cc[j]? = some (cc[j]'(by omega)) := Array.getElem?_eq_getElem (by omega)
                have h3 : y.1[j]? = some (y.1[j]'(by omega)) := List.getElem?_eq_getElem (by omega)
                have := d3 j k _ _ _ hk h1 (by rw [Array.getElem?_toList]; exact h2) h3
                rw [Nat.zero_add] at this
                exact ⟨_, _, _, h1, h2, hcd j _ h3, this⟩
              let d : D := .agg y.1
              let bid' : Nat → Nat := fun q => if q = p then i else bid q
              have hbid : ∀ q, p + 1 ≤ q → bid q = bid' q := fun q hq => by simp only [bid']; rw [if_neg (by omega)]
              have hbidp : bid' p = i := by simp [bid']
              have hpar : paramSt (.box u' cs :: ps) p (.agg y.1 :: r.1) = some ((p, .bptr p u' 0 (.agg u')) :: sl, (p, .box u' (.cells (mkCells p cs 0 d))) :: (rowObjs p cs 0 d ++ os)) := by
                simp only [paramSt, q1, opt]; rfl
              have hlk : ∀ j o, lk j ((p, Obj.box u' (.cells (mkCells p cs 0 d))) :: (rowObjs p cs 0 d ++ os)) = some o → (j = p ∧ o = .box u' (.cells (mkCells p cs 0 d))) ∨ (∃ c0 e, cs[c0]? = some (.row e) ∧ j = rowId p c0 ∧ o = .arr e (d.cell c0).toList) ∨ lk j os = some o := by
                intro j o h
                simp only [lk] at h
                cases hb : Nat.beq j p with
                | true => rw [hb] at h; injection h with h; exact .inl ⟨beq_iff.1 hb, h.symm⟩
                | false =>
                  rw [hb] at h
                  simp only [cond_false, lk_app] at h
                  cases hr2 : lk j (rowObjs p cs 0 d) with
                  | some o' =>
                    rw [hr2] at h; injection h with h; subst h
                    obtain ⟨c0, e, g1, g2, g3⟩ := rowObjs_lk p cs 0 d j o' hr2
                    rw [Nat.zero_add] at g2 g3
                    exact .inr (.inl ⟨c0, e, g1, g2, g3⟩)
                  | none => rw [hr2] at h; exact .inr (.inr h)
              have hin : ∀ j o, lk j os = some o → ∃ o', lk j ((p, Obj.box u' (.cells (mkCells p cs 0 d))) :: (rowObjs p cs 0 d ++ os)) = some o' := by
                intro j o h
                simp only [lk]
                cases hb : Nat.beq j p with
                | true => exact ⟨_, rfl⟩
                | false =>
                  simp only [cond_false, lk_app]
                  cases lk j (rowObjs p cs 0 d) with
                  | some o' => exact ⟨_, rfl⟩
                  | none => exact ⟨o, h⟩
              have hself : ∃ o', lk p ((p, Obj.box u' (.cells (mkCells p cs 0 d))) :: (rowObjs p cs 0 d ++ os)) = some o' := ⟨.box u' (.cells (mkCells p cs 0 d)), by simp only [lk, beq_self, cond_true]⟩
              have hrowin : ∀ c0 e, cs[c0]? = some (.row e) → ∃ o', lk (rowId p c0) ((p, Obj.box u' (.cells (mkCells p cs 0 d))) :: (rowObjs p cs 0 d ++ os)) = some o' := by
                intro c0 e hce
                obtain ⟨o', ho'⟩ := rowObjs_there p cs 0 d c0 e hce
                rw [Nat.zero_add] at ho'
                simp only [lk]
                cases hb : Nat.beq (rowId p c0) p with
                | true => exact ⟨_, rfl⟩
                | false => exact ⟨o', by simp only [cond_false, lk_app, ho']⟩
              refine ⟨by simp [hl], _, _, bid', hpar, ?_, ?_, ?_, ?_, ?_⟩
              · intro t s1 ht
                simp only [lk] at ht
                cases hb : Nat.beq t p with
                | true =>
                  rw [hb] at ht; injection ht with ht; subst ht
                  have := beq_iff.1 hb; subst this
                  refine ⟨⟨_, hv0', ?_⟩, fun i hi => ?_⟩
                  · refine ⟨?_, b, hιp, rfl⟩
                    rw [← hc5]; exact hka
                  · simp [refsOf, refs0] at hi; subst hi; exact hself
                | false =>
                  rw [hb] at ht
                  obtain ⟨r1, r2⟩ := q2 t s1 ht
                  exact ⟨r1, fun i hi => by obtain ⟨o, ho⟩ := r2 i hi; exact hin i o ho⟩
              · intro j o ho k hk
                rcases hlk j o ho with ⟨rfl, rfl⟩ | ⟨c0, e, _, _, rfl⟩ | ho
                · rcases mkCells_refs hk with rfl | ⟨c0, e, g1, rfl⟩
                  · exact hself
                  · rw [Nat.zero_add]; exact hrowin c0 e g1
                · cases hk
                · obtain ⟨o', ho'⟩ := q3 j o ho k hk
                  exact hin k o' ho'
              · intro id o ho
                rcases hlk id o ho with ⟨rfl, rfl⟩ | ⟨c0, e, g1, rfl, rfl⟩ | ho
                · refine ⟨⟨ti, b, cc, hti, hιp, hheap, b1, by rw [mkCells_length, hlen0, b2], fun j s1 u hs1 hu => ?_⟩, .inr (.inr ⟨0, u', cs, rfl, rfl, by rw [Nat.add_zero, hbidp, hιp, hι]⟩)⟩
                  rw [mkCells_get, Option.map_eq_some_iff] at hs1
                  obtain ⟨k', hk', rfl⟩ := hs1
                  obtain ⟨s2, u2, d0, e1, e2, e3, e4⟩ := hcellok j k' hk'
                  rw [hu] at e2; injection e2 with e2; subst e2
                  rw [Nat.zero_add]
                  cases k' with
                  | val q =>
                    have e4 : Rep E.tt M q u d0 := e4
                    show Rep E.tt M q u (canon q (d.cell j))
                    rw [show d.cell j = d0 from e3, e4.canon]; exact e4
                  | row e' =>
                    obtain ⟨_, _, hsl, e5⟩ := e4
                    exact ⟨e5.symm, by rw [e5]; exact hsl⟩
                  | self => exact e4
                · obtain ⟨s2, u2, d0, e1, e2, e3, e4⟩ := hcellok c0 _ g1
                  obtain ⟨f1, f2, _⟩ := e4
                  rw [show d.cell c0 = d0 from e3]
                  refine ⟨f1, ?_⟩
                  rcases f2 with f2 | ⟨j, f2, f3⟩
                  · exact .inl f2
                  · exact .inr (.inl ⟨j, List.mem_append_left _ f2, f3⟩)
                · obtain ⟨r1, r2⟩ := q4 id o ho
                  refine ⟨r1, ?_⟩
                  rcases r2 with r2 | ⟨j, r2, r3⟩ | ⟨q, t, cs2, r3, r4, r5⟩
                  · exact .inl r2
                  · exact .inr (.inl ⟨j, List.mem_append_right _ r2, r3⟩)
                  · exact .inr (.inr ⟨q + 1, t, cs2, up r3, by omega, by rw [r5, hbid _ (by omega)]; congr 2; omega⟩)
              · simp only [boxesP, hbidp]
                rw [q5, boxesP_congr ps (p + 1) hbid]
              · intro q t cs2 hq
                cases q with
                | zero =>
                  rw [Nat.add_zero, hbidp]
                  exact ⟨⟨_, hob⟩, by rw [hv0', hι]⟩
                | succ q =>
                  have := q6 q t cs2 (by simpa using hq)
                  rw [show p + (q + 1) = p + 1 + q by omega, ← hbid _ (by omega)]; exact this
        | _ => cases h
end
end Go.Proofs.YthbncndefigidaaDoor.DS

namespace Go.Proofs.YthbncndefigidaaDoor.DS

theorem boxObjs_there : ∀ (boxes : List (Nat × TypeId × List CK)) (n : Nat) (ds : List D) (i : Nat), i ∈ boxIds boxes → ∃ o, lk i (boxObjs boxes n ds) = some o := by
  intro boxes
  induction boxes with
  | nil => intro n ds i h; cases h
  | cons x r ih =>
    obtain ⟨j, t, cs⟩ := x
    intro n ds i h
    simp only [boxObjs, lk]
    cases hb : Nat.beq i j with
    | true => exact ⟨_, rfl⟩
    | false =>
      simp only [cond_false, lk_app]
      rcases List.mem_cons.1 h with h | h
      · exact absurd h (beq_false.1 hb)
      · cases lk i (rowObjs j cs 0 (ds.getD n .no)) with
        | some o => exact ⟨o, rfl⟩
        | none => exact ih (n + 1) ds i h
theorem boxObjs_refs : ∀ (boxes : List (Nat × TypeId × List CK)) (n : Nat) (ds : List D) (j : Nat) (o : Obj), lk j (boxObjs boxes n ds) = some o → ∀ i, i ∈ objRefs0 o → ∃ o', lk i (boxObjs boxes n ds) = some o' := by
  intro boxes
  induction boxes with
  | nil => intro n ds j o h; cases h
  | cons x r ih =>
    obtain ⟨k, t, cs⟩ := x
    intro n ds j o h i hi
    have up : ∀ i o', lk i (boxObjs r (n + 1) ds) = some o' → ∃ o', lk i (boxObjs ((k, t, cs) :: r) n ds) = some o' := by
      intro i o' h
      simp only [boxObjs, lk]
      cases hb : Nat.beq i k with
      | true => exact ⟨_, rfl⟩
      | false =>
        simp only [cond_false, lk_app]
        cases lk i (rowObjs k cs 0 (ds.getD n .no)) with
        | some o => exact ⟨o, rfl⟩
        | none => exact ⟨o', h⟩
    simp only [boxObjs, lk] at h
    cases hb : Nat.beq j k with
    | true =>
      rw [hb] at h; injection h with h; subst h
      rcases mkCells_refs hi with rfl | ⟨c, e, g1, rfl⟩
      · exact ⟨.box t (.cells (mkCells i cs 0 (ds.getD n .no))), by simp only [boxObjs, lk, beq_self, cond_true]⟩
      · obtain ⟨o', ho'⟩ := rowObjs_there k cs 0 (ds.getD n .no) c e g1
        simp only [boxObjs, lk]
        cases hb2 : Nat.beq (rowId k (0 + c)) k with
        | true => exact ⟨_, rfl⟩
        | false => exact ⟨o', by simp only [cond_false, lk_app, ho']⟩
    | false =>
      rw [hb] at h
      simp only [cond_false, lk_app] at h
      cases hr : lk j (rowObjs k cs 0 (ds.getD n .no)) with
      | some o' =>
        rw [hr] at h; injection h with h; subst h
        obtain ⟨_, _, _, _, rfl⟩ := rowObjs_lk k cs 0 _ j o' hr
        cases hi
      | none =>
        rw [hr] at h
        obtain ⟨o', ho'⟩ := ih (n + 1) ds j o h i hi
        exact up i o' ho'
theorem freshOr_spec {st : St} {l : List Nat} : ∀ {os : List (Nat × Obj)}, freshOr st l os = true → ∀ i o, lk i os = some o → i ∈ l ∨ st.objs i = none := by
  intro os
  induction os with
  | nil => intro _ i o h; cases h
  | cons x r ih =>
    obtain ⟨k, o'⟩ := x
    intro h i o hi
    simp only [freshOr] at h
    obtain ⟨h1, h2⟩ : (memN k l || fresh st k) = true ∧ freshOr st l r = true := by
      cases hq : (memN k l || fresh st k) with
      | true => rw [hq] at h; exact ⟨rfl, h⟩
      | false => rw [hq] at h; cases h
    simp only [lk] at hi
    cases hb : Nat.beq i k with
    | true =>
      have := beq_iff.1 hb; subst this
      simp only [Bool.or_eq_true] at h1
      rcases h1 with h1 | h1
      · exact .inl (memN_iff.1 h1)
      · right
        unfold fresh at h1
        split at h1
        · cases h1
        · assumption
    | false => rw [hb] at hi; exact ih h2 i o hi
theorem boxIds_bid {bid : Nat → Nat} : ∀ (ps : List PM) (p : Nat) (i : Nat), i ∈ boxIds (boxesP bid p ps) → ∃ q t cs, ps[q]? = some (.box t cs) ∧ i = bid (p + q) := by
  intro ps
  induction ps with
  | nil => intro p i h; cases h
  | cons x r ih =>
    intro p i h
    have tail : i ∈ boxIds (boxesP bid (p + 1) r) → ∃ q t cs, (x :: r)[q]? = some (.box t cs) ∧ i = bid (p + q) := by
      intro h
      obtain ⟨q, t, cs, h1, h2⟩ := ih (p + 1) i h
      exact ⟨q + 1, t, cs, by simpa using h1, by rw [h2]; congr 1; omega⟩
    cases x with
    | box t cs =>
      rcases List.mem_cons.1 h with h | h
      · exact ⟨0, t, cs, rfl, h⟩
      · exact tail h
    | _ => exact tail h

section
variable {P : Program} {E : Env} (hT : TTok P E.tt) {st : St} {ops : List Oper} {a : Act} {w w0 : World} {X : Nat → Prop} {Mx : Mem} {ι : Nat → Value} {M : Mem}

/-- The blocks that are handed over. -/
def Xh (st : St) (ι : Nat → Value) (l : List Nat) (b : Nat) : Prop := ∃ i, i ∈ l ∧ ∃ o, st.objs i = some o ∧ blockOf (ι i) = some b

include hT in
theorem hargs_ok (hev : ∀ x s, ev st ops [] x = some s → SVRel E.tt ι M s (a.eval x)) (H : HRel E.tt X w0 Mx ι M st.objs w) {ps : List PM} {xs : List Operand} {ds : List D} {rs : List (Nat × Nat)} {boxes : List (Nat × TypeId × List CK)}
    (h : hargsO E st ops [] 0 ps xs = some (ds, rs, boxes)) (hnd : (sndL rs ++ boxIds boxes).Nodup) :
    ∃ bid : Nat → Nat, boxes = boxesP bid 0 ps ∧ (∀ p t cs, ps[p]? = some (.box t cs) → (xs.map a.eval)[p]? = some (ι (bid p)) ∧ ∃ o, st.objs (bid p) = some o) ∧ ArgsOK E (Xh st ι (sndL rs ++ boxIds boxes)) w M ps (xs.map a.eval) ds := by
  obtain ⟨hl, sl, os, bid, q1, q2, q3, q4, q5, q6⟩ := hargs_ind (vs := xs.map a.eval) hT hev H ps 0 xs ds rs boxes h (fun q x hx => by rw [Nat.zero_add, List.getElem?_map, hx]; rfl)
  have q6' : ∀ p t cs, ps[p]? = some (.box t cs) → (xs.map a.eval)[p]? = some (ι (bid p)) ∧ ∃ o, st.objs (bid p) = some o := fun p t cs hp => by
    have := q6 p t cs hp
    rw [Nat.zero_add] at this
    exact ⟨this.2, this.1⟩
  obtain ⟨n1, n2, n3⟩ := List.nodup_append.1 hnd
  refine ⟨bid, q5, q6', by simp [hl], sl, os, ιc w (xs.map a.eval), q1, ?_, q2, q3⟩
  -- where a handle comes from
  have src : ∀ id o b, lk id os = some o → blockOf (ιc w (xs.map a.eval) id) = some b → ∃ j, ((id, j) ∈ rs ∨ ∃ q t cs, ps[q]? = some (.box t cs) ∧ id = q ∧ j = bid q) ∧ (∃ o, st.objs j = some o) ∧ blockOf (ι j) = some b := by
    intro id o b ho hb
    rcases (q4 id o ho).2 with r | ⟨i, r1, r2, r3⟩ | ⟨q, t, cs, r1, r2, r3⟩
    · rw [r] at hb; cases hb
    · exact ⟨i, .inl r1, r2, by rw [← r3]; exact hb⟩
    · rw [Nat.zero_add] at r2 r3
      exact ⟨bid q, .inr ⟨q, t, cs, r1, r2, rfl⟩, (q6' q t cs r1).2, by rw [← r3]; exact hb⟩
  have inl : ∀ id j, ((id, j) ∈ rs ∨ ∃ q t cs, ps[q]? = some (.box t cs) ∧ id = q ∧ j = bid q) → j ∈ sndL rs ++ boxIds boxes := by
    intro id j hj
    rcases hj with hj | ⟨q, t, cs, r1, _, rfl⟩
    · exact List.mem_append_left _ (sndL_mem hj)
    · refine List.mem_append_right _ ?_
      have := boxIds_mem (bid := bid) ps 0 q t cs r1
      rw [Nat.zero_add] at this
      rw [q5]; exact this
  refine ⟨fun id o ho => (q4 id o ho).1, ?_, ?_, H.mem, fun _ _ h => h, fun _ _ _ => rfl, rfl, rfl, rfl, Nat.le_refl _, fun _ _ _ => rfl⟩
  · intro id id' o o' b h1 h2 hne hb hb'
    obtain ⟨j, s1, ⟨oj, s2⟩, s3⟩ := src id o b h1 hb
    obtain ⟨j', s1', ⟨oj', s2'⟩, s3'⟩ := src id' o' b h2 hb'
    have hjj : j ≠ j' := by
      intro e
      subst e
      rcases s1 with s1 | ⟨q, t, cs, r1, r2, r3⟩ <;> rcases s1' with s1' | ⟨q', t', cs', r1', r2', r3'⟩
      · exact hne (sndL_inj n1 s1 s1')
      · have hm := boxIds_mem (bid := bid) ps 0 q' t' cs' r1'
        rw [Nat.zero_add, ← q5, ← r3'] at hm
        exact n3 j (sndL_mem s1) j hm rfl
      · have hm := boxIds_mem (bid := bid) ps 0 q t cs r1
        rw [Nat.zero_add, ← q5, ← r3] at hm
        exact n3 j (sndL_mem s1') j hm rfl
      · have := boxIds_inj (bid := bid) ps 0 q q' t t' cs cs' (by rw [← q5]; exact n2) r1 r1' (by rw [Nat.zero_add, Nat.zero_add, ← r3, ← r3'])
        subst this
        exact hne (r2.trans r2'.symm)
    exact H.disj j j' oj oj' b s2 s2' hjj s3 s3'
  · intro id o b h1 hb
    obtain ⟨j, s1, ⟨oj, s2⟩, s3⟩ := src id o b h1 hb
    exact ⟨.inr ⟨j, inl id j s1, oj, s2, s3⟩, (H.own j oj b s2 s3).2⟩

/-- The caller's state behind the call. -/
theorem hret_left (H : HRel E.tt X w0 Mx ι M st.objs w) (hwf : WF st) {ps : List PM} {rms : List RM} {vs : List Value} {rows : List Nat} {boxes : List (Nat × TypeId × List CK)} {bid : Nat → Nat} (hbx : boxes = boxesP bid 0 ps)
    (hvs : ∀ p t cs, ps[p]? = some (.box t cs) → vs[p]? = some (ι (bid p))) {r : List D} {v : Value} {w' : World} (hret : RetOK E (Xh st ι (rows ++ boxIds boxes)) w M ps rms vs r v w') {base : Nat} {svs : List SV} {os1 : List (Nat × Obj)}
    (hres : resSV rms base 0 r = some (svs, os1)) (hnd : nodupL (keysN (os1 ++ boxObjs boxes rms.length r)) = true) (hfr : freshOr (dropRows rows st) (boxIds boxes) (os1 ++ boxObjs boxes rms.length r) = true) :
    ∃ ι' M', HRel E.tt X w0 Mx ι' M' (putAll (dropRows rows st).objs (os1 ++ boxObjs boxes rms.length r)) w' ∧
      (∀ t s1, (dropRows rows st).slots t = some s1 → ∃ s0, st.slots t = some s0 ∧ ∀ v0, SVRel E.tt ι M s0 v0 → SVRel E.tt ι' M' s1 v0) ∧ SVRel E.tt ι' M' (oneV svs) v ∧
      WF { dropRows rows st with objs := putAll (dropRows rows st).objs (os1 ++ boxObjs boxes rms.length r) } ∧ ∀ i, i ∈ refsOf (oneV svs) → ∃ o, putAll (dropRows rows st).objs (os1 ++ boxObjs boxes rms.length r) i = some o := by
  subst hbx
  obtain ⟨ι2, M', R, hv, hvr, hbp⟩ := hret base bid svs os1 hres hnd
  have D := drop_all rows H hwf
  generalize hos : os1 ++ boxObjs (boxesP bid 0 ps) rms.length r = os at *
  have hlkr : ∀ i o, lk i os1 = some o → ∃ o', lk i os = some o' := fun i o h => ⟨o, by rw [← hos, lk_app, h]⟩
  have hlkb : ∀ i o, lk i (boxObjs (boxesP bid 0 ps) rms.length r) = some o → ∃ o', lk i os = some o' := fun i o h => by
    rw [← hos, lk_app]
    cases lk i os1 with
    | some o' => exact ⟨o', rfl⟩
    | none => exact ⟨o, h⟩
  have hosr : ∀ j o, lk j os = some o → ∀ i, i ∈ objRefs0 o → ∃ o', lk i os = some o' := by
    intro j o h i hi
    rw [← hos, lk_app] at h
    cases hl : lk j os1 with
    | some o' =>
      rw [hl] at h; injection h with h; subst h
      rw [(resSV_spec rms base 0 r svs os1 hres).1 j o' hl] at hi; cases hi
    | none =>
      rw [hl] at h
      obtain ⟨o', ho'⟩ := boxObjs_refs _ _ _ j o h i hi
      exact hlkb i o' ho'
  obtain ⟨hM, hold⟩ := HRel.merge2 (hs := boxIds (boxesP bid 0 ps)) D.rel R (fun b ⟨i, _, o, ho, hb⟩ => (H.own i o b ho hb).1) (fun b ⟨j, hj, oj, hoj, hbj⟩ i o ho hi hb => by
      obtain ⟨h1, o0, h2⟩ := D.there i o ho
      have hij : i ≠ j := by
        intro e; subst e
        rcases List.mem_append.1 hj with hj | hj
        · exact h1 hj
        · exact hi hj
      exact H.disj i j o0 oj b h2 hoj hij hb hbj)
    (fun i o h => freshOr_spec hfr i o h) (fun i hi => by obtain ⟨o, ho⟩ := boxObjs_there _ rms.length r i hi; exact hlkb i o ho)
    (fun i hi => by
      obtain ⟨q, t, cs, g1, g2⟩ := boxIds_bid ps 0 i hi
      rw [Nat.zero_add] at g2; subst g2
      have e1 := hvs q t cs g1
      have e2 := hbp q t cs g1
      rw [e1] at e2; injection e2 with e2; exact e2.symm)
    D.wf.cells hosr
  have hin : ∀ i, (∃ o, (dropRows rows st).objs i = some o) → ∃ o, putAll (dropRows rows st).objs os i = some o := by
    intro i ⟨o, ho⟩
    rw [putAll_eq]
    cases lk i os with
    | some o' => exact ⟨o', rfl⟩
    | none => exact ⟨o, ho⟩
  have hin2 : ∀ i, (∃ o, lk i os = some o) → ∃ o, putAll (dropRows rows st).objs os i = some o := by
    intro i ⟨o, ho⟩
    rw [putAll_eq, ho]; exact ⟨o, rfl⟩
  refine ⟨joinι os ι ι2, M', hM, ?_, ?_, ⟨?_, ?_⟩, ?_⟩
  · intro t s1 h
    obtain ⟨s0, h1, h2⟩ := D.slots t s1 h
    exact ⟨s0, h1, fun v0 h0 => (h2 v0 h0).congr (fun i hi => hold i (D.wf.slots t s1 h i hi)) R.memx⟩
  · refine hv.congr (fun i hi => ?_) (fun _ _ h => h)
    obtain ⟨o, ho⟩ := hvr i hi
    obtain ⟨o', ho'⟩ := hlkr i o ho
    unfold joinι; rw [ho']
  · intro t s h i hi
    exact hin i (D.wf.slots t s h i hi)
  · intro j o hj i hi
    simp only [putAll_eq] at hj
    cases hl : lk j os with
    | some o' =>
      rw [hl] at hj; injection hj with hj; subst hj
      exact hin2 i (hosr j o' hl i hi)
    | none =>
      rw [hl] at hj
      exact hin i (D.wf.cells j o hj i hi)
  · intro i hi
    obtain ⟨o, ho⟩ := hvr i hi
    exact hin2 i (hlkr i o ho)
end
end Go.Proofs.YthbncndefigidaaDoor.DS
