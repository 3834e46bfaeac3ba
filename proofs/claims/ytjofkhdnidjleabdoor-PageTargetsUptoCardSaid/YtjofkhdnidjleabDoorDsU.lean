/- Regions: the state's relation to memory while a region runs. -/
import Derived.Test.YtjofkhdnidjleabDoorDsT
set_option linter.unusedVariables false
set_option linter.unusedSimpArgs false
namespace Go.Proofs.YtjofkhdnidjleabDoor.DS

def HoldsL (a : Act) (L : List (Nat × Bool)) : Prop := ∀ p ∈ L, a.eval (.tmp p.1) = .bool p.2

theorem nthOp_get (ops : List Oper) : ∀ i, nthOp ops i = ops[i]? := by
  induction ops with
  | nil => intro i; simp [nthOp]
  | cons o r ih => intro i; cases i <;> simp [nthOp, ih]
theorem nthOp_lt {ops : List Oper} {i : Nat} {o : Oper} (h : nthOp ops i = some o) : i < ops.length := by
  rw [nthOp_get] at h; exact (List.getElem?_eq_some_iff.1 h).1
theorem nthOp_toList {ops : Array Oper} {i : Nat} : nthOp ops.toList i = ops[i]? := by
  rw [nthOp_get]; simp

theorem chainF_fuel (ops : List Oper) : ∀ n m j, j < n → j < m → chainF ops n j = chainF ops m j := by
  intro n
  induction n with
  | zero => intro m j h; omega
  | succ n ih =>
    intro m j h1 h2
    cases m with
    | zero => omega
    | succ m =>
      simp only [chainF]
      cases nthOp ops j with
      | none => rfl
      | some o =>
        simp only
        cases o.guard with
        | none => rfl
        | some g =>
          obtain ⟨k, w⟩ := g
          simp only
          cases hk : Nat.ble (k + 1) j with
          | false => rfl
          | true =>
            have hk' := Nat.le_of_ble_eq_true hk
            simp only [cond_true]
            cases nthOp ops k with
            | none => rfl
            | some ok =>
              simp only
              cases ok.dst with
              | none => rfl
              | some t => simp only; rw [ih m k (by omega) (by omega)]

theorem guards_spec {ops : List Oper} {draw : Bool} (h : guardsOk ops draw = true) {i : Nat} {o : Oper} (hi : nthOp ops i = some o) {j : Nat} {w : Bool} (hg : o.guard = some (j, w)) :
    ∃ oj t, nthOp ops j = some oj ∧ oj.dst = some t ∧ j < i ∧ chainOf ops i = (t, w) :: chainOf ops j ∧ (draw = true → j ∈ anyEdges o) := by
  have := allBelow_spec h i (nthOp_lt hi)
  rw [hi] at this
  simp only [hg, Bool.and_eq_true] at this
  obtain ⟨h1, h2, h3⟩ := this
  have hlt := Nat.le_of_ble_eq_true h1
  cases hj : nthOp ops j with
  | none => rw [hj] at h2; cases h2
  | some oj =>
    rw [hj] at h2
    simp only at h2
    obtain ⟨t, ht⟩ := Option.isSome_iff_exists.1 h2
    refine ⟨oj, t, rfl, ht, by omega, ?_, ?_⟩
    · unfold chainOf
      rw [show chainF ops (i + 1) i = (t, w) :: chainF ops i j by simp only [chainF, hi, hg, h1, cond_true, hj, ht]]
      rw [chainF_fuel ops i (j + 1) j (by omega) (by omega)]
    · intro hd
      rw [hd] at h3
      exact memN_iff.1 (by simpa using h3)
theorem chain_none {ops : List Oper} {i : Nat} {o : Oper} (hi : nthOp ops i = some o) (hg : o.guard = none) : chainOf ops i = [] := by
  simp only [chainOf, chainF, hi, hg]

theorem dstsOf_mem {ops : List Oper} {i : Nat} {o : Oper} {t : Nat} (hi : nthOp ops i = some o) (ht : o.dst = some t) : t ∈ dstsOf ops := by
  induction ops generalizing i with
  | nil => simp [nthOp] at hi
  | cons x r ih =>
    cases i with
    | zero => simp only [nthOp, Option.some.injEq] at hi; subst hi; simp [dstsOf, ht]
    | succ i =>
      have := ih hi
      simp only [dstsOf]
      cases x.dst <;> simp [this]
theorem dstIx_spec {ops : List Oper} (hn : nodupN (dstsOf ops) = true) {i : Nat} {o : Oper} {t : Nat} (hi : nthOp ops i = some o) (ht : o.dst = some t) : ∀ n, dstIx t ops n = some (n + i) := by
  induction ops generalizing i with
  | nil => simp [nthOp] at hi
  | cons x r ih =>
    intro n
    cases i with
    | zero => simp only [nthOp, Option.some.injEq] at hi; subst hi; simp [dstIx, ht, beq_self]
    | succ i =>
      have hm := dstsOf_mem (ops := r) hi ht
      cases hx : x.dst with
      | none =>
        simp only [dstsOf, hx] at hn
        simp only [dstIx, hx]
        rw [ih hn hi]; congr 1; omega
      | some d =>
        simp only [dstsOf, hx, nodupN] at hn
        cases hmem : memN d (dstsOf r) with
        | true => rw [hmem] at hn; cases hn
        | false =>
          rw [hmem] at hn
          have hne : t ≠ d := fun e => by subst e; rw [memN_iff.2 hm] at hmem; cases hmem
          simp only [dstIx, hx, beq_false.2 hne, cond_false]
          rw [ih hn hi]; congr 1; omega
theorem grdOf_spec {ops : List Oper} (hn : nodupN (dstsOf ops) = true) {i : Nat} {o : Oper} {t : Nat} (hi : nthOp ops i = some o) (ht : o.dst = some t) : grdOf ops t = chainOf ops i := by
  unfold grdOf; rw [dstIx_spec hn hi ht 0]; simp
theorem dst_unique {ops : List Oper} (hn : nodupN (dstsOf ops) = true) {i j : Nat} {o o' : Oper} {t : Nat} (hi : nthOp ops i = some o) (hj : nthOp ops j = some o') (ht : o.dst = some t) (ht' : o'.dst = some t) : i = j := by
  have h1 := dstIx_spec hn hi ht 0
  have h2 := dstIx_spec hn hj ht' 0
  rw [h1] at h2; injection h2; omega

theorem boolEqB_iff {a b : Bool} : boolEqB a b = true ↔ a = b := by cases a <;> cases b <;> decide
theorem inGrd_iff {p : Nat × Bool} {l : List (Nat × Bool)} : inGrd p l = true ↔ p ∈ l := by
  induction l with
  | nil => simp [inGrd]
  | cons q r ih =>
    simp only [inGrd, List.mem_cons]
    cases h : (Nat.beq p.1 q.1 && boolEqB p.2 q.2) with
    | true =>
      simp only [Bool.and_eq_true] at h
      simp [Prod.ext_iff, beq_iff.1 h.1, boolEqB_iff.1 h.2]
    | false =>
      have : p ≠ q := fun e => by subst e; simp [beq_self, boolEqB_iff.2 rfl] at h
      simp [ih, this]
theorem subGrd_iff {l m : List (Nat × Bool)} : subGrd l m = true ↔ ∀ p ∈ l, p ∈ m := by
  induction l with
  | nil => simp [subGrd]
  | cons q r ih =>
    simp only [subGrd, List.forall_mem_cons]
    cases h : inGrd q m with
    | true => simp [ih, inGrd_iff.1 h]
    | false =>
      have : q ∉ m := fun e => by rw [inGrd_iff.2 e] at h; cases h
      simp [this]
theorem dropGrd_mem {p q : Nat × Bool} {l : List (Nat × Bool)} (h : q ∈ l) (hne : q ≠ p) : q ∈ dropGrd p l := by
  induction l with
  | nil => cases h
  | cons x r ih =>
    simp only [dropGrd]
    cases hx : (Nat.beq p.1 x.1 && boolEqB p.2 x.2) with
    | true =>
      simp only [Bool.and_eq_true] at hx
      have hpx : p = x := Prod.ext (beq_iff.1 hx.1) (boolEqB_iff.1 hx.2)
      rcases List.mem_cons.1 h with h | h
      · exact absurd (h.trans hpx.symm) hne
      · exact ih h
    | false =>
      rcases List.mem_cons.1 h with h | h
      · subst h; exact List.mem_cons_self
      · exact List.mem_cons_of_mem _ (ih h)

theorem eval_put_same {a : Act} {t : Nat} {v : Value} (h : t < a.tmps.size) : (a.put (some t) v).eval (.tmp t) = v := by
  simp [Act.eval, Act.put, Array.getD_eq_getD_getElem?, Array.getElem?_setIfInBounds, h]
theorem eval_put_other {a : Act} {d : Option Nat} {v : Value} {t : Nat} (h : d ≠ some t) : (a.put d v).eval (.tmp t) = a.eval (.tmp t) :=
  Act.eval_put fun d' hd => by subst hd; intro e; injection e with e; subst e; exact h rfl
theorem size_put {a : Act} {d : Option Nat} {v : Value} : (a.put d v).tmps.size = a.tmps.size := by cases d <;> simp [Act.put]
theorem defers_put {a : Act} {d : Option Nat} {v : Value} : (a.put d v).defers = a.defers := by cases d <;> rfl

/-- How state and memory stand while a region runs: done tells the operations behind us. -/
structure RI (E : Env) (X : Nat → Prop) (w0 : World) (Mx : Mem) (pv : Nat → Option Value) (ops : List Oper) (done : Nat → Prop) (st : St) (a : Act) (w : World) : Prop where
  ex : ∃ ι M, HRel E.tt X w0 Mx ι M st.objs w ∧ ∀ t s, st.slots t = some s → (∀ i o, done i → nthOp ops i = some o → o.dst = some t → HoldsL a (chainOf ops i)) → SVRel E.tt ι M s (a.eval (.tmp t))
  gi : ∀ i o t b, done i → nthOp ops i = some o → o.dst = some t → a.eval (.tmp t) = .bool b → HoldsL a (chainOf ops i)
  closed : ∀ i o j w, done i → nthOp ops i = some o → o.guard = some (j, w) → done j
  wf : WF st
  size : a.tmps.size = st.n
  defers : a.defers = []
  pin : ∀ p v, pv p = some v → a.eval (.tmp p) = v

section
variable {E : Env} {X : Nat → Prop} {w0 w : World} {Mx : Mem} {pv : Nat → Option Value} {ops : List Oper} {done : Nat → Prop} {st : St} {a : Act} {draw : Bool}

theorem yielded_iff {ops : Array Oper} {j : Nat} {oj : Oper} {t : Nat} (hj : ops[j]? = some oj) (ht : oj.dst = some t) {a : Act} {b : Bool} : yielded ops a.tmps j = some b ↔ a.eval (.tmp t) = .bool b := by
  unfold yielded Act.eval
  simp only [hj, Option.bind_some, ht, Array.getD_eq_getD_getElem?]
  cases a.tmps[t]? with
  | none => simp [undef]
  | some v => cases v <;> simp

/-- An operation is carried out just where all its guards hold. -/
theorem wanted_iff {ops : Array Oper} (hg : guardsOk ops.toList draw = true) (hgi : ∀ i o t b, done i → nthOp ops.toList i = some o → o.dst = some t → a.eval (.tmp t) = .bool b → HoldsL a (chainOf ops.toList i))
    {i : Nat} {o : Oper} (hi : nthOp ops.toList i = some o) (hdep : ∀ j w, o.guard = some (j, w) → done j) : Region.wanted o (yielded ops a.tmps) = true ↔ HoldsL a (chainOf ops.toList i) := by
  unfold Region.wanted
  cases hgd : o.guard with
  | none => simp only [chain_none hi hgd]; exact ⟨fun _ p hp => (by cases hp), fun _ => by trivial⟩
  | some g =>
    obtain ⟨j, w⟩ := g
    obtain ⟨oj, t, hj, ht, hlt, hc, _⟩ := guards_spec hg hi hgd
    rw [hc]
    simp only [beq_iff_eq]
    rw [yielded_iff (by rw [← nthOp_toList]; exact hj) ht]
    constructor
    · intro h p hp
      rcases List.mem_cons.1 hp with rfl | hp
      · exact h
      · exact hgi j oj t w (hdep j w hgd) hj ht h p hp
    · intro h; exact h (t, w) List.mem_cons_self

variable (hn : nodupN (dstsOf ops) = true)

include hn in
theorem slot_rel {ι : Nat → Value} {M : Mem} (hs : ∀ t s, st.slots t = some s → (∀ i o, done i → nthOp ops i = some o → o.dst = some t → HoldsL a (chainOf ops i)) → SVRel E.tt ι M s (a.eval (.tmp t)))
    {t : Nat} {s : SV} (h : st.slots t = some s) (hL : HoldsL a (grdOf ops t)) : SVRel E.tt ι M s (a.eval (.tmp t)) :=
  hs t s h fun i o _ hi ht => by rw [← grdOf_spec hn hi ht]; exact hL
include hn in
theorem ev_rel {ι : Nat → Value} {M : Mem} (hs : ∀ t s, st.slots t = some s → (∀ i o, done i → nthOp ops i = some o → o.dst = some t → HoldsL a (chainOf ops i)) → SVRel E.tt ι M s (a.eval (.tmp t)))
    {L : List (Nat × Bool)} (hL : HoldsL a L) (hconst : ∀ v s, constSV v = some s → SVRel E.tt ι M s v) {x : Operand} {s : SV} (h : ev st ops L x = some s) : SVRel E.tt ι M s (a.eval x) := by
  cases x with
  | tmp t =>
    replace h := cond_some.1 h
    exact slot_rel hn hs h.2 fun p hp => hL p (subGrd_iff.1 h.1 p hp)
  | const v => exact hconst v s h
  | _ => cases h
include hn in
theorem evPick_rel {ι : Nat → Value} {M : Mem} (hs : ∀ t s, st.slots t = some s → (∀ i o, done i → nthOp ops i = some o → o.dst = some t → HoldsL a (chainOf ops i)) → SVRel E.tt ι M s (a.eval (.tmp t)))
    {L : List (Nat × Bool)} (hL : HoldsL a L) (hconst : ∀ v s, constSV v = some s → SVRel E.tt ι M s v) {x : Operand} {s : SV} {c : Nat} {b : Bool} (hc : a.eval (.tmp c) = .bool b) (h : evPick st ops L c b x = some s) : SVRel E.tt ι M s (a.eval x) := by
  cases x with
  | tmp t =>
    replace h := cond_some.1 h
    refine slot_rel hn hs h.2 fun p hp => ?_
    by_cases e : p = (c, b)
    · subst e; exact hc
    · exact hL p (subGrd_iff.1 h.1 p (dropGrd_mem hp e))
  | const v => exact hconst v s h
  | _ => cases h

include hn in
/-- Guards in the state and in memory. -/
theorem guardB_iff (hg : guardsOk ops draw = true) {ι : Nat → Value} {M : Mem} (hs : ∀ t s, st.slots t = some s → (∀ i o, done i → nthOp ops i = some o → o.dst = some t → HoldsL a (chainOf ops i)) → SVRel E.tt ι M s (a.eval (.tmp t))) :
    ∀ n i o, i < n → nthOp ops i = some o → guardsThere st (chainOf ops i) = true → (guardB st (chainOf ops i) = true ↔ HoldsL a (chainOf ops i)) := by
  intro n
  induction n with
  | zero => intro i o h; omega
  | succ n ih =>
    intro i o hin hi hth
    cases hgd : o.guard with
    | none => rw [chain_none hi hgd]; exact ⟨fun _ p hp => (by cases hp), fun _ => rfl⟩
    | some g =>
      obtain ⟨j, w⟩ := g
      obtain ⟨oj, t, hj, ht, hlt, hc, _⟩ := guards_spec hg hi hgd
      rw [hc] at hth ⊢
      simp only [guardsThere] at hth
      split at hth
      case h_2 => cases hth
      case h_1 d hst =>
        have hih := ih j oj (by omega) hj hth
        have hval : HoldsL a (chainOf ops j) → a.eval (.tmp t) = .bool d.toBool := by
          intro hL
          have := slot_rel hn hs hst (by rw [grdOf_spec hn hj ht]; exact hL)
          exact (Rep.inv_bool this).1
        have hhead : guardB st ((t, w) :: chainOf ops j) = true ↔ (d.toBool = w ∧ guardB st (chainOf ops j) = true) := by
          cases hcj : chainOf ops j with
          | nil => simp only [guardB, hst, boolEqB_iff]; simp
          | cons q r => simp only [guardB, hst, Bool.and_eq_true, boolEqB_iff]
        rw [hhead, hih]
        constructor
        · rintro ⟨h1, h2⟩ p hp
          rcases List.mem_cons.1 hp with rfl | hp
          · rw [hval h2, h1]
          · exact h2 p hp
        · intro h
          have h2 : HoldsL a (chainOf ops j) := fun p hp => h p (List.mem_cons_of_mem _ hp)
          refine ⟨?_, h2⟩
          have h3 := h (t, w) List.mem_cons_self
          simp only at h3
          rw [hval h2] at h3; injection h3

end
end Go.Proofs.YtjofkhdnidjleabDoor.DS
