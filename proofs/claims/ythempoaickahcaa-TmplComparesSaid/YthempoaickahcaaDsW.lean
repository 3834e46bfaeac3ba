/- One operation of a region, in memory. -/
import Derived.Test.YthempoaickahcaaDsV
set_option linter.unusedVariables false
set_option linter.unusedSimpArgs false
namespace Go.Proofs.Ythempoaickahcaa.DS

section
variable {P : Program} {E : Env} {X : Nat → Prop} {w0 w w' : World} {Mx : Mem} {ops : List Oper} {done : Nat → Prop} {st : St} {a : Act} {draw : Bool}

theorem chain_mem (hg : guardsOk ops draw = true) (hcl : ∀ i o j w, done i → nthOp ops i = some o → o.guard = some (j, w) → done j) :
    ∀ n k o, k < n → nthOp ops k = some o → (∀ j w, o.guard = some (j, w) → done j) → ∀ p ∈ chainOf ops k, ∃ j oj, done j ∧ nthOp ops j = some oj ∧ oj.dst = some p.1 := by
  intro n
  induction n with
  | zero => intro k o h; omega
  | succ n ih =>
    intro k o hk ho hd p hp
    cases hgd : o.guard with
    | none => rw [chain_none ho hgd] at hp; cases hp
    | some g =>
      obtain ⟨j, w⟩ := g
      obtain ⟨oj, t, hj, ht, hlt, hc, _⟩ := guards_spec hg ho hgd
      rw [hc] at hp
      rcases List.mem_cons.1 hp with rfl | hp
      · exact ⟨j, oj, hd j w hgd, hj, ht⟩
      · exact ih j oj (by omega) hj (fun j' w' h' => hcl j oj j' w' (hd j w hgd) hj h') p hp

/-- A step of a region. -/
theorem ri_step (hn : nodupN (dstsOf ops) = true) (hg : guardsOk ops draw = true) {i : Nat} {o : Oper} (hi : nthOp ops i = some o) (hnd : ¬ done i) (hdep : ∀ j w, o.guard = some (j, w) → done j)
    {ι : Nat → Value} {M : Mem} (hs : ∀ t s, st.slots t = some s → (∀ i o, done i → nthOp ops i = some o → o.dst = some t → HoldsL a (chainOf ops i)) → SVRel E.tt ι M s (a.eval (.tmp t)))
    (hgi : ∀ i o t b, done i → nthOp ops i = some o → o.dst = some t → a.eval (.tmp t) = .bool b → HoldsL a (chainOf ops i))
    (hcl : ∀ i o j w, done i → nthOp ops i = some o → o.guard = some (j, w) → done j)
    (hsz : a.tmps.size = st.n) (hdf : a.defers = [])
    {s st' : St} {v : SV} {u : Value} (hl : ∃ ι' M', HRel E.tt X w0 Mx ι' M' s.objs w' ∧ (∀ t s1, s.slots t = some s1 → ∃ s0, st.slots t = some s0 ∧ ∀ v0, SVRel E.tt ι M s0 v0 → SVRel E.tt ι' M' s1 v0) ∧ (HoldsL a (chainOf ops i) → SVRel E.tt ι' M' v u))
    (hsn : s.n = st.n) (hwf : WF s) (hvr : ∀ i, i ∈ refsOf v → ∃ o, s.objs i = some o) (hub : ∀ b, u = .bool b → HoldsL a (chainOf ops i)) (hput : putSlot s o.dst v = some st') :
    RI E X w0 Mx ops (fun k => done k ∨ k = i) st' (a.put o.dst u) w' := by
  have hne : ∀ j oj t, done j → nthOp ops j = some oj → oj.dst = some t → o.dst ≠ some t := by
    intro j oj t hj hoj ht e
    have := dst_unique hn hoj hi ht e
    subst this; exact hnd hj
  have hchain : ∀ k ok, (done k ∨ k = i) → nthOp ops k = some ok → (HoldsL (a.put o.dst u) (chainOf ops k) ↔ HoldsL a (chainOf ops k)) := by
    intro k ok hk hok
    have hd : ∀ j w, ok.guard = some (j, w) → done j := by
      rcases hk with hk | rfl
      · exact fun j w h => hcl k ok j w hk hok h
      · rw [hi] at hok; injection hok with hok; subst hok; exact hdep
    have hm := chain_mem hg hcl (k + 1) k ok (by omega) hok hd
    have : ∀ p ∈ chainOf ops k, (a.put o.dst u).eval (.tmp p.1) = a.eval (.tmp p.1) := by
      intro p hp
      obtain ⟨j, oj, h1, h2, h3⟩ := hm p hp
      exact eval_put_other (hne j oj p.1 h1 h2 h3)
    constructor
    · intro h p hp; rw [← this p hp]; exact h p hp
    · intro h p hp; rw [this p hp]; exact h p hp
  have hst' : st'.n = s.n ∧ st'.objs = s.objs ∧ (∀ t, o.dst ≠ some t → st'.slots t = s.slots t) ∧ (∀ t, o.dst = some t → st'.slots t = some v ∧ t < s.n) := by
    unfold putSlot at hput
    split at hput
    · rename_i hd
      injection hput with hput; subst hput
      exact ⟨rfl, rfl, fun _ _ => rfl, fun t h => by rw [hd] at h; cases h⟩
    · rename_i d hd
      obtain ⟨hb, hput⟩ := cond_some.1 hput
      injection hput with hput; subst hput
      refine ⟨rfl, rfl, fun t h => put_other _ _ _ (fun e => h (by rw [hd, e])), fun t h => ?_⟩
      rw [hd] at h; injection h with h; subst h
      exact ⟨put_same _ _ _, Nat.le_of_ble_eq_true hb⟩
  obtain ⟨e1, e2, e3, e4⟩ := hst'
  obtain ⟨ι', M', H', hslots, hv⟩ := hl
  refine ⟨⟨ι', M', by rw [e2]; exact H', ?_⟩, ?_, ?_, ?_, ?_, ?_⟩
  · intro t s1 hs1 hcond
    by_cases ht : o.dst = some t
    · obtain ⟨h1, h2⟩ := e4 t ht
      rw [h1] at hs1; injection hs1 with hs1; subst hs1
      rw [ht, eval_put_same (by rw [hsz, ← hsn]; exact h2)]
      exact hv ((hchain i o (.inr rfl) hi).1 (hcond i o (.inr rfl) hi ht))
    · rw [e3 t ht] at hs1
      obtain ⟨s0, h0, h1⟩ := hslots t s1 hs1
      rw [eval_put_other ht]
      refine h1 _ (hs t s0 h0 fun j oj hj hoj hjt => ?_)
      exact (hchain j oj (.inl hj) hoj).1 (hcond j oj (.inl hj) hoj hjt)
  · intro j oj t b hj hoj hjt hb
    rw [hchain j oj hj hoj]
    rcases hj with hj | rfl
    · rw [eval_put_other (hne j oj t hj hoj hjt)] at hb
      exact hgi j oj t b hj hoj hjt hb
    · rw [hi] at hoj; injection hoj with hoj; subst hoj
      obtain ⟨_, h2⟩ := e4 t hjt
      rw [hjt, eval_put_same (by rw [hsz, ← hsn]; exact h2)] at hb
      exact hub b hb
  · intro k ok j w hk hok hgd
    rcases hk with hk | rfl
    · exact .inl (hcl k ok j w hk hok hgd)
    · rw [hi] at hok; injection hok with hok; subst hok
      exact .inl (hdep j w hgd)
  · constructor
    · intro t s1 hs1 j hj
      rw [e2]
      by_cases ht : o.dst = some t
      · rw [(e4 t ht).1] at hs1; injection hs1 with hs1; subst hs1; exact hvr j hj
      · rw [e3 t ht] at hs1; exact hwf.slots t s1 hs1 j hj
    · intro j ob hj k hk
      rw [e2] at hj ⊢
      exact hwf.cells j ob hj k hk
  · rw [size_put, hsz, e1, hsn]
  · rw [defers_put]; exact hdf

theorem call_inv {st : St} {ops : List Oper} {L : List (Nat × Bool)} {o : Oper} {f : Nat} {ds : List D} {rs : List RM} (h : opO E draw st ops L o = some (.call f ds rs)) :
    ∃ c sg, o.op = .call c ∧ c.callee = .value (.func f) ∧ lk f E.sigs = some sg ∧ argsO st ops L sg.params c.args.toList = some ds ∧ rs = sg.results := by
  have hcall : ∀ c, callO E draw st ops L o.dst c = some (.call f ds rs) → ∃ sg, c.callee = .value (.func f) ∧ lk f E.sigs = some sg ∧ argsO st ops L sg.params c.args.toList = some ds ∧ rs = sg.results := by
    intro c h
    unfold callO at h
    split at h
    · rename_i g hg
      obtain ⟨sg, hsg, h⟩ := opt_some.1 h
      obtain ⟨ds', hds, h⟩ := opt_some.1 h
      injection h with h; injection h with h1 h2 h3; subst h1 h2 h3
      exact ⟨sg, hg, hsg, hds, rfl⟩
    · exfalso
      split at h
      · unfold lenO at h
        replace h := opt_some.1 h
        obtain ⟨_, _, h⟩ := h
        replace h := opt_some.1 h
        obtain ⟨_, _, h⟩ := h
        split at h
        · cases h
        · cases h
        · cases h
        · split at h <;> cases h
        · cases h
      · cases h
    · exfalso
      split at h
      · unfold appendO at h
        replace h := opt_some.1 h
        obtain ⟨ti, _, h⟩ := h
        replace h := opt_some.1 h
        obtain ⟨xi, _, h⟩ := h
        replace h := opt_some.1 h
        obtain ⟨s1, _, h⟩ := h
        replace h := opt_some.1 h
        obtain ⟨s2, _, h⟩ := h
        split at h
        · replace h := opt_some.1 h
          obtain ⟨ei, _, h⟩ := h
          replace h := cond_some.1 h
          replace h := h.2
          replace h := opt_some.1 h
          obtain ⟨ds, _, h⟩ := h
          have hw : ∀ {dst : Option Nat} {ob : Obj} {vv : Nat → SV} {c : Bool}, withObj st dst ob vv c = some (.call f ds rs) → False := by
            intro dst ob vv c h
            unfold withObj at h
            split at h
            · have := (cond_some.1 h).2; cases this
            · cases h
          have hw2 : ∀ {ds' : List D} {dst : Option Nat} {ob : Obj} {vv : Nat → SV} {c : Bool}, withObj st dst ob vv c = some (.call f ds' rs) → False := by
            intro ds' dst ob vv c h
            unfold withObj at h
            split at h
            · have := (cond_some.1 h).2; cases this
            · cases h
          split at h
          · exact hw2 h
          · split at h
            · revert h
              generalize Nat.beq _ _ = bb
              intro h
              cases bb with
              | true => cases h
              | false =>
                simp only [cond_false] at h
                split at h
                · replace h := cond_some.1 h
                  replace h := h.2
                  cases h
                · cases h
            · split at h
              · replace h := cond_some.1 h
                replace h := h.2
                cases h
              · cases h
          · cases h
        · cases h
      · cases h
    all_goals first | (cases h; done) | (
      exfalso
      unfold mmO at h
      split at h
      · cases h
      · replace h := opt_some.1 h
        obtain ⟨_, _, h⟩ := h
        split at h
        · replace h := opt_some.1 h
          obtain ⟨_, _, h⟩ := h
          cases h
        · cases h)
  cases hop : o.op with
  | call c =>
    unfold opO at h
    rw [hop] at h
    obtain ⟨sg, h1⟩ := hcall c h
    exact ⟨c, sg, rfl, h1⟩
  | binOp op t x y yt =>
    exfalso
    unfold opO at h
    rw [hop] at h
    simp only at h
    obtain ⟨s1, _, h⟩ := opt_some.1 h
    obtain ⟨s2, _, h⟩ := opt_some.1 h
    unfold binO at h
    split at h
    · revert h
      generalize (isShift op) = b1
      intro h
      cases b1 with
      | true => simp only [cond_true, shiftOp] at h; cases op <;> cases h
      | false => have h := (cond_some.1 h).2; unfold intOp at h; cases op <;> cases h
    · unfold strOp at h; cases op <;> cases h
    · split at h
      · have h := (cond_some.1 h).2; unfold boolOp at h; cases op <;> cases h
      · cases h
    · cases h
  | pick x y z =>
    exfalso
    unfold opO at h
    rw [hop] at h
    simp only [pickO] at h
    obtain ⟨s1, _, h⟩ := opt_some.1 h
    obtain ⟨s2, _, h⟩ := opt_some.1 h
    split at h
    · split at h
      · have h := (cond_some.1 h).2
        split at h
        · revert h
          generalize (sameTmp _ y) = b1
          generalize (sameTmp _ z) = b2
          intro h
          cases b1 <;> cases b2 <;> cases h
        · cases h
      · cases h
    · cases h
  | _ =>
    exfalso
    unfold opO at h
    rw [hop] at h
    try simp only [moveO, allocO, boxO, buildO, buildSliceO, loadO, storeO, unO, convertO, makeSliceO, sliceO, fieldAddrO, indexAddrO, indexO, withObj, Bool.cond_eq_ite] at h
    repeat' (first
      | (cases h; done)
      | (rw [opt_some] at h; obtain ⟨_, _, h⟩ := h)
      | (split at h))

end
end Go.Proofs.Ythempoaickahcaa.DS
