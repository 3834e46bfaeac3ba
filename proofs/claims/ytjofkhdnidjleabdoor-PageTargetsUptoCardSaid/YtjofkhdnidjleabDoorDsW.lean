/- One operation of a region, in memory. -/
import Derived.Test.YtjofkhdnidjleabDoorDsV
set_option linter.unusedVariables false
set_option linter.unusedSimpArgs false
namespace Go.Proofs.YtjofkhdnidjleabDoor.DS

section
variable {P : Program} {E : Env} {X : Nat → Prop} {w0 w w' : World} {Mx : Mem} {pv : Nat → Option Value} {ops : List Oper} {done : Nat → Prop} {st : St} {a : Act} {draw : Bool}

theorem chain_mem (hg : guardsOk ops draw = true) (hcl : ∀ i o j w, done i → nthOp ops i = some o → o.guard = some (j, w) → done j) :
    ∀ n k o, k < n → nthOp ops k = some o → (∀ j w, o.guard = some (j, w) → done j) → ∀ p ∈ chainOf ops k, ∃ j oj, done j ∧ nthOp ops j = some oj ∧ oj.dst = some p.1 := by
  intro n
  induction n with
  | zero => intro k o h; omega
  | succ n ih =>
    intro k o hk ho hd p hp
    cases hgd : o.guard with
    | none => rw [chain_none ho hgd] at hp; cases hp
    | some g =>
      obtain ⟨j, w⟩ := g
      obtain ⟨oj, t, hj, ht, hlt, hc, _⟩ := guards_spec hg ho hgd
      rw [hc] at hp
      rcases List.mem_cons.1 hp with rfl | hp
      · exact ⟨j, oj, hd j w hgd, hj, ht⟩
      · exact ih j oj (by omega) hj (fun j' w' h' => hcl j oj j' w' (hd j w hgd) hj h') p hp

/-- A step of a region. -/
theorem ri_step (hn : nodupN (dstsOf ops) = true) (hg : guardsOk ops draw = true) {i : Nat} {o : Oper} (hi : nthOp ops i = some o) (hnd : ¬ done i) (hdep : ∀ j w, o.guard = some (j, w) → done j)
    {ι : Nat → Value} {M : Mem} (hs : ∀ t s, st.slots t = some s → (∀ i o, done i → nthOp ops i = some o → o.dst = some t → HoldsL a (chainOf ops i)) → SVRel E.tt ι M s (a.eval (.tmp t)))
    (hgi : ∀ i o t b, done i → nthOp ops i = some o → o.dst = some t → a.eval (.tmp t) = .bool b → HoldsL a (chainOf ops i))
    (hcl : ∀ i o j w, done i → nthOp ops i = some o → o.guard = some (j, w) → done j)
    (hsz : a.tmps.size = st.n) (hdf : a.defers = []) (hpin : ∀ p v, pv p = some v → a.eval (.tmp p) = v) (hpd : ∀ t, o.dst = some t → pv t = none)
    {s st' : St} {v : SV} {u : Value} (hl : ∃ ι' M', HRel E.tt X w0 Mx ι' M' s.objs w' ∧ (∀ t s1, s.slots t = some s1 → ∃ s0, st.slots t = some s0 ∧ ∀ v0, SVRel E.tt ι M s0 v0 → SVRel E.tt ι' M' s1 v0) ∧ (HoldsL a (chainOf ops i) → SVRel E.tt ι' M' v u))
    (hsn : s.n = st.n) (hwf : WF s) (hvr : ∀ i, i ∈ refsOf v → ∃ o, s.objs i = some o) (hub : ∀ b, u = .bool b → HoldsL a (chainOf ops i)) (hput : putSlot s o.dst v = some st') :
    RI E X w0 Mx pv ops (fun k => done k ∨ k = i) st' (a.put o.dst u) w' := by
  have hne : ∀ j oj t, done j → nthOp ops j = some oj → oj.dst = some t → o.dst ≠ some t := by
    intro j oj t hj hoj ht e
    have := dst_unique hn hoj hi ht e
    subst this; exact hnd hj
  have hchain : ∀ k ok, (done k ∨ k = i) → nthOp ops k = some ok → (HoldsL (a.put o.dst u) (chainOf ops k) ↔ HoldsL a (chainOf ops k)) := by
    intro k ok hk hok
    have hd : ∀ j w, ok.guard = some (j, w) → done j := by
      rcases hk with hk | rfl
      · exact fun j w h => hcl k ok j w hk hok h
      · rw [hi] at hok; injection hok with hok; subst hok; exact hdep
    have hm := chain_mem hg hcl (k + 1) k ok (by omega) hok hd
    have : ∀ p ∈ chainOf ops k, (a.put o.dst u).eval (.tmp p.1) = a.eval (.tmp p.1) := by
      intro p hp
      obtain ⟨j, oj, h1, h2, h3⟩ := hm p hp
      exact eval_put_other (hne j oj p.1 h1 h2 h3)
    constructor
    · intro h p hp; rw [← this p hp]; exact h p hp
    · intro h p hp; rw [this p hp]; exact h p hp
  have hst' : st'.n = s.n ∧ st'.objs = s.objs ∧ (∀ t, o.dst ≠ some t → st'.slots t = s.slots t) ∧ (∀ t, o.dst = some t → st'.slots t = some v ∧ t < s.n) := by
    unfold putSlot at hput
    split at hput
    · rename_i hd
      injection hput with hput; subst hput
      exact ⟨rfl, rfl, fun _ _ => rfl, fun t h => by rw [hd] at h; cases h⟩
    · rename_i d hd
      obtain ⟨hb, hput⟩ := cond_some.1 hput
      injection hput with hput; subst hput
      refine ⟨rfl, rfl, fun t h => put_other _ _ _ (fun e => h (by rw [hd, e])), fun t h => ?_⟩
      rw [hd] at h; injection h with h; subst h
      exact ⟨put_same _ _ _, Nat.le_of_ble_eq_true hb⟩
  obtain ⟨e1, e2, e3, e4⟩ := hst'
  obtain ⟨ι', M', H', hslots, hv⟩ := hl
  refine ⟨⟨ι', M', by rw [e2]; exact H', ?_⟩, ?_, ?_, ?_, ?_, ?_, fun p v hp => by
    rw [eval_put_other (fun e => by have := hpd p e; rw [hp] at this; cases this)]; exact hpin p v hp⟩
  · intro t s1 hs1 hcond
    by_cases ht : o.dst = some t
    · obtain ⟨h1, h2⟩ := e4 t ht
      rw [h1] at hs1; injection hs1 with hs1; subst hs1
      rw [ht, eval_put_same (by rw [hsz, ← hsn]; exact h2)]
      exact hv ((hchain i o (.inr rfl) hi).1 (hcond i o (.inr rfl) hi ht))
    · rw [e3 t ht] at hs1
      obtain ⟨s0, h0, h1⟩ := hslots t s1 hs1
      rw [eval_put_other ht]
      refine h1 _ (hs t s0 h0 fun j oj hj hoj hjt => ?_)
      exact (hchain j oj (.inl hj) hoj).1 (hcond j oj (.inl hj) hoj hjt)
  · intro j oj t b hj hoj hjt hb
    rw [hchain j oj hj hoj]
    rcases hj with hj | rfl
    · rw [eval_put_other (hne j oj t hj hoj hjt)] at hb
      exact hgi j oj t b hj hoj hjt hb
    · rw [hi] at hoj; injection hoj with hoj; subst hoj
      obtain ⟨_, h2⟩ := e4 t hjt
      rw [hjt, eval_put_same (by rw [hsz, ← hsn]; exact h2)] at hb
      exact hub b hb
  · intro k ok j w hk hok hgd
    rcases hk with hk | rfl
    · exact .inl (hcl k ok j w hk hok hgd)
    · rw [hi] at hok; injection hok with hok; subst hok
      exact .inl (hdep j w hgd)
  · constructor
    · intro t s1 hs1 j hj
      rw [e2]
      by_cases ht : o.dst = some t
      · rw [(e4 t ht).1] at hs1; injection hs1 with hs1; subst hs1; exact hvr j hj
      · rw [e3 t ht] at hs1; exact hwf.slots t s1 hs1 j hj
    · intro j ob hj k hk
      rw [e2] at hj ⊢
      exact hwf.cells j ob hj k hk
  · rw [size_put, hsz, e1, hsn]
  · rw [defers_put]; exact hdf

def isCall : Out → Bool
  | .call .. => true
  | .hcall .. => true
  | _ => false
theorem call_out {st : St} {ops : List Oper} {L : List (Nat × Bool)} {o : Oper} {out : Out} (h : opO E draw st ops L o = some out) (hi : isCall out = true) :
    ∃ c, o.op = .call c ∧ ((∃ f sg, c.callee = .value (.func f) ∧ lk f E.sigs = some sg ∧ cond (allValP sg.params)
      (opt (argsO st ops L (flatR sg.results) sg.params c.args.toList) fun ds => some (Out.call f ds sg.results))
      (cond draw none (opt (hargsO E st ops L 0 sg.params c.args.toList) fun x => some (Out.hcall f x.1 sg (sndL x.2.1) x.2.2))) = some out) ∨ ∃ t, c.callee = .value (.tmp t) ∧ cloO E draw st ops L t c.args.toList = some out) := by
  have hcall : ∀ c, callO E draw st ops L o.dst c = some out → ((∃ f sg, c.callee = .value (.func f) ∧ lk f E.sigs = some sg ∧ cond (allValP sg.params)
      (opt (argsO st ops L (flatR sg.results) sg.params c.args.toList) fun ds => some (Out.call f ds sg.results))
      (cond draw none (opt (hargsO E st ops L 0 sg.params c.args.toList) fun x => some (Out.hcall f x.1 sg (sndL x.2.1) x.2.2))) = some out) ∨ ∃ t, c.callee = .value (.tmp t) ∧ cloO E draw st ops L t c.args.toList = some out) := by
    intro c h
    unfold callO at h
    split at h
    · rename_i g hg
      replace h := opt_some.1 h
      obtain ⟨sg, hsg, h⟩ := h
      exact .inl ⟨g, sg, hg, hsg, h⟩
    · exfalso
      split at h
      · unfold lenO at h
        replace h := opt_some.1 h
        obtain ⟨_, _, h⟩ := h
        replace h := opt_some.1 h
        obtain ⟨_, _, h⟩ := h
        split at h
        · (cases h <;> cases hi)
        · (cases h <;> cases hi)
        · (cases h <;> cases hi)
        · split at h <;> (cases h <;> cases hi)
        · (cases h <;> cases hi)
      · (cases h <;> cases hi)
    · exfalso
      split at h
      · unfold appendO at h
        replace h := opt_some.1 h
        obtain ⟨ti, _, h⟩ := h
        replace h := opt_some.1 h
        obtain ⟨xi, _, h⟩ := h
        replace h := opt_some.1 h
        obtain ⟨s1, _, h⟩ := h
        replace h := opt_some.1 h
        obtain ⟨s2, _, h⟩ := h
        split at h
        · replace h := opt_some.1 h
          obtain ⟨ei, _, h⟩ := h
          replace h := cond_some.1 h
          replace h := h.2
          replace h := opt_some.1 h
          obtain ⟨ds, _, h⟩ := h
          have hw : ∀ {dst : Option Nat} {ob : Obj} {vv : Nat → SV} {c : Bool}, withObj st dst ob vv c = some out → False := by
            intro dst ob vv c h
            unfold withObj at h
            split at h
            · have h := (cond_some.1 h).2; cases h <;> cases hi
            · (cases h <;> cases hi)
          split at h
          · exact hw h
          · split at h
            · revert h
              generalize Nat.beq _ _ = bb
              intro h
              cases bb with
              | true => (cases h <;> cases hi)
              | false =>
                simp only [cond_false] at h
                split at h
                · replace h := cond_some.1 h
                  replace h := h.2
                  (cases h <;> cases hi)
                · (cases h <;> cases hi)
            · split at h
              · replace h := cond_some.1 h
                replace h := h.2
                (cases h <;> cases hi)
              · (cases h <;> cases hi)
          · (cases h <;> cases hi)
        · (cases h <;> cases hi)
      · (cases h <;> cases hi)
    all_goals first | (cases h <;> cases hi; done) | exact .inr ⟨_, ‹_›, h⟩ | (
      exfalso
      unfold mmO at h
      split at h
      · (cases h <;> cases hi)
      · replace h := opt_some.1 h
        obtain ⟨_, _, h⟩ := h
        split at h
        · replace h := opt_some.1 h
          obtain ⟨_, _, h⟩ := h
          (cases h <;> cases hi)
        · (cases h <;> cases hi))
  cases hop : o.op with
  | call c =>
    unfold opO at h
    rw [hop] at h
    exact ⟨c, rfl, hcall c h⟩
  | binOp op t x y yt =>
    exfalso
    unfold opO at h
    rw [hop] at h
    simp only at h
    replace h := opt_some.1 h
    obtain ⟨s1, _, h⟩ := h
    replace h := opt_some.1 h
    obtain ⟨s2, _, h⟩ := h
    unfold binO at h
    split at h
    · revert h
      generalize (isShift op) = b1
      intro h
      cases b1 with
      | true => simp only [cond_true, shiftOp] at h; cases op <;> (cases h <;> cases hi)
      | false => replace h := (cond_some.1 h).2; unfold intOp at h; cases op <;> (cases h <;> cases hi)
    · unfold strOp at h; cases op <;> (cases h <;> cases hi)
    · split at h
      · replace h := (cond_some.1 h).2; unfold boolOp at h; cases op <;> (cases h <;> cases hi)
      · (cases h <;> cases hi)
    · (cases h <;> cases hi)
  | pick x y z =>
    exfalso
    unfold opO at h
    rw [hop] at h
    simp only [pickO] at h
    replace h := opt_some.1 h
    obtain ⟨s1, _, h⟩ := h
    replace h := opt_some.1 h
    obtain ⟨s2, _, h⟩ := h
    split at h
    · split at h
      · replace h := (cond_some.1 h).2
        split at h
        · revert h
          generalize (sameTmp _ y) = b1
          generalize (sameTmp _ z) = b2
          intro h
          cases b1 <;> cases b2 <;> (cases h <;> cases hi)
        · (cases h <;> cases hi)
      · (cases h <;> cases hi)
    · (cases h <;> cases hi)
  | makeFunc fn fs cs =>
    exfalso
    cases fn with
    | func g =>
      unfold opO at h
      rw [hop] at h
      obtain ⟨_, _, _, _, _, _, _, _, h⟩ := mkf_out h
      subst h; cases hi
    | _ =>
      unfold opO at h
      rw [hop] at h
      cases h
  | _ =>
    exfalso
    unfold opO at h
    rw [hop] at h
    try simp only [moveO, allocO, boxO, buildO, buildSliceO, loadO, storeO, unO, convertO, makeSliceO, sliceO, fieldAddrO, fieldO, indexAddrO, indexO, withObj, Bool.cond_eq_ite] at h
    repeat' (first
      | (cases h <;> cases hi; done)
      | (rw [opt_some] at h; obtain ⟨_, _, h⟩ := h)
      | (split at h))

theorem allValP_args {st : St} {ops : List Oper} {L : List (Nat × Bool)} {b : Bool} : ∀ {ps : List PM} {xs : List Operand} {ds : List D}, argsO st ops L b ps xs = some ds → allValP ps = true := by
  intro ps
  induction ps with
  | nil => intro xs ds _; rfl
  | cons p ps ih =>
    intro xs ds h
    cases p with
    | val k =>
      cases xs with
      | nil => cases h
      | cons x xs =>
        obtain ⟨s, _, h⟩ := opt_some.1 h
        obtain ⟨d, _, h⟩ := opt_some.1 h
        obtain ⟨r, hr, h⟩ := opt_some.1 h
        exact ih hr
    | _ => cases xs <;> cases h
theorem call_inv {st : St} {ops : List Oper} {L : List (Nat × Bool)} {o : Oper} {f : Nat} {ds : List D} {rs : List RM} (h : opO E draw st ops L o = some (.call f ds rs)) :
    ∃ c sg, o.op = .call c ∧ lk f E.sigs = some sg ∧ rs = sg.results ∧ ((c.callee = .value (.func f) ∧ argsO st ops L (flatR sg.results) sg.params c.args.toList = some ds) ∨
      ∃ t id, c.callee = .value (.tmp t) ∧ ev st ops L (.tmp t) = some (.clo f id) ∧ flatR sg.results = true ∧ argsC E st ops L id sg.params c.args.toList = some ds) := by
  obtain ⟨c, h1, ⟨g, sg, h2, h3, h4⟩ | ⟨t, h2, h4⟩⟩ := call_out h rfl
  · rcases callF_out h4 with ⟨ds', h5, h6⟩ | ⟨_, _, _, h6⟩
    · injection h6 with e1 e2 e3; subst e1 e2 e3
      exact ⟨c, sg, h1, h3, rfl, .inl ⟨h2, h5⟩⟩
    · cases h6
  · obtain ⟨_, g, id, sg, ds', h5, h6, h7, h8, h9⟩ := clo_out h4
    injection h9 with e1 e2 e3; subst e1 e2 e3
    exact ⟨c, sg, h1, h6, rfl, .inr ⟨t, id, h2, h5, h7, h8⟩⟩
theorem hcall_inv {st : St} {ops : List Oper} {L : List (Nat × Bool)} {o : Oper} {f : Nat} {ds : List D} {sg : Sig} {rows : List Nat} {boxes : List (Nat × TypeId × List CK)} (h : opO E draw st ops L o = some (.hcall f ds sg rows boxes)) :
    ∃ c, o.op = .call c ∧ c.callee = .value (.func f) ∧ lk f E.sigs = some sg ∧ ∃ rs, hargsO E st ops L 0 sg.params c.args.toList = some (ds, rs, boxes) ∧ rows = sndL rs := by
  obtain ⟨c, h1, ⟨g, sg', h2, h3, h4⟩ | ⟨t, h2, h4⟩⟩ := call_out h rfl
  · rcases callF_out h4 with ⟨_, _, h6⟩ | ⟨_, x, h5, h6⟩
    · cases h6
    · injection h6 with e1 e2 e3 e4 e5; subst e1 e2 e3 e4 e5
      exact ⟨c, h1, h2, h3, x.2.1, h5, rfl⟩
  · obtain ⟨_, g, id, sg, ds', h5, h6, h7, h8, h9⟩ := clo_out h4
    cases h9

end
end Go.Proofs.YtjofkhdnidjleabDoor.DS
