/- Operations that may change places do so. -/
import Derived.Test.YtjofkhdnidjleabDoorDsR
set_option linter.unusedVariables false
set_option linter.unusedSimpArgs false
namespace Go.Proofs.YtjofkhdnidjleabDoor.DS

section
variable {E : Env} {st st' : St} {ops : List Oper} {L : List (Nat × Bool)} (hwf : WF st)

/-- An object that an operation lays in a region whose order is open. -/
structure ObFact (st : St) (o : Oper) (id : Nat) (ob : Obj) (scr : Bool) (v : SV) : Prop where
  scr : scr = false
  refs : ∀ i, i ∈ objRefs0 ob → i = id ∨ ∃ o, st.objs i = some o
  vrefs : ∀ i, i ∈ refsOf v → i = id
  kind : (st.objs id = none ∧ o.dst = some id) ∨ (id ∈ wrAt st o ∧ (∃ ob0, st.objs id = some ob0))

theorem newFact {o : Oper} {ob ob' : Obj} {vv : Nat → SV} {c0 c scr : Bool} {id : Nat} {v : SV} (h : withObj st o.dst ob vv c0 = some (.ob c id ob' scr v)) (hr : ∀ i, i ∈ objRefs0 ob → i = id ∨ ∃ o, st.objs i = some o) (hv : ∀ d i, i ∈ refsOf (vv d) → i = d) : ObFact st o id ob' scr v := by
  obtain ⟨hd, hf, hc, rfl, rfl, rfl⟩ := withObj_st h
  exact ⟨rfl, hr, fun i hi => hv id i hi, .inl ⟨hf, hd⟩⟩

theorem zeroSV_refs (l : List KT) (id : Nat) : ∀ i, i ∈ refsL (l.map (zeroSV id)) → i = id := by
  intro i hi
  obtain ⟨s, hs, hi⟩ := mem_refsL.1 hi
  obtain ⟨k, _, rfl⟩ := List.mem_map.1 hs
  cases k <;> simp [zeroSV, refs0] at hi
  exact hi
theorem boxC_refs {t : TypeId} {ti : TI} {s : SV} {c : BC} (h : boxC t ti s = some c) : ∀ i, i ∈ objRefs0 (.box t c) → i ∈ refsOf s := by
  intro i hi
  unfold boxC at h
  split at h
  · split at h
    · replace h := (cond_some.1 h).2
      injection h with h; subst h; exact hi
    · obtain ⟨d, _, h⟩ := opt_some.1 h
      injection h with h; subst h; cases hi
  · split at h
    · injection h with h; subst h; simp [objRefs0, refsL, refs0] at hi
    · injection h with h; subst h; simpa [objRefs0, refsL, refs0, refsOf] using hi
    · obtain ⟨d, _, h⟩ := opt_some.1 h
      injection h with h; subst h; simp [objRefs0, refsL, refs0] at hi
  · obtain ⟨d, _, h⟩ := opt_some.1 h
    injection h with h; subst h; simp [objRefs0, refsL, refs0] at hi
theorem expand_refs (ks : List KT) (d : D) : ∀ n, refsL (expand ks d n) = [] := by
  induction ks with
  | nil => intro n; rfl
  | cons k r ih => intro n; simp [refsL, expand, refs0, ih]

include hwf in
theorem ob_fact {o : Oper} (hall : (opEff o).all = false) {c : Bool} {id : Nat} {ob : Obj} {scr : Bool} {v : SV} (h : opO E true st ops L o = some (.ob c id ob scr v)) : ObFact st o id ob scr v := by
  unfold opO at h
  split at h
  case h_1 x hx =>
    exfalso
    unfold moveO at h
    split at h
    · replace h := opt_some.1 h
      obtain ⟨_, _, h⟩ := h
      split at h
      · replace h := opt_some.1 h
        obtain ⟨_, _, h⟩ := h
        cases h
      · cases h
    · replace h := opt_some.1 h
      obtain ⟨_, _, h⟩ := h
      cases h
  case h_2 x hx =>
    exfalso
    unfold moveO at h
    split at h
    · replace h := opt_some.1 h
      obtain ⟨_, _, h⟩ := h
      split at h
      · replace h := opt_some.1 h
        obtain ⟨_, _, h⟩ := h
        cases h
      · cases h
    · replace h := opt_some.1 h
      obtain ⟨_, _, h⟩ := h
      cases h
  case h_3 x y z hx =>
    exfalso
    unfold pickO at h
    replace h := opt_some.1 h
    obtain ⟨tc, _, h⟩ := h
    replace h := opt_some.1 h
    obtain ⟨sc, _, h⟩ := h
    split at h
    · split at h
      · replace h := (cond_some.1 h).2
        split at h
        · revert h
          generalize (sameTmp tc y) = b1
          generalize (sameTmp tc z) = b2
          intro h
          cases b1 <;> cases b2 <;> cases h
        · cases h
      · cases h
    · cases h
  case h_4 t hx =>
    unfold allocO at h
    replace h := opt_some.1 h
    obtain ⟨ti, _, h⟩ := h
    obtain ⟨hd, _⟩ := withObj_st h
    exact newFact h (fun i hi => .inl (by rw [hd] at hi; exact zeroSV_refs _ _ i hi)) (fun d i hi => by simpa [refsOf, refs0] using hi)
  case h_5 t x hx =>
    unfold boxO at h
    replace h := opt_some.1 h
    obtain ⟨ti, _, h⟩ := h
    replace h := opt_some.1 h
    obtain ⟨s, hs, h⟩ := h
    replace h := opt_some.1 h
    obtain ⟨c, hc, h⟩ := h
    exact newFact h (fun i hi => .inr (ev_there hwf hs i (boxC_refs hc i hi))) (fun d i hi => by simpa [refsOf, refs0] using hi)
  case h_6 t ps hx =>
    exfalso
    obtain ⟨_, h⟩ := buildO_sv h
    cases h
  case h_7 t n ps hx =>
    unfold buildSliceO at h
    replace h := opt_some.1 h
    obtain ⟨ti, _, h⟩ := h
    split at h
    · replace h := opt_some.1 h
      obtain ⟨ei, _, h⟩ := h
      replace h := opt_some.1 h
      obtain ⟨ds, _, h⟩ := h
      replace h := cond_some.1 h
      exact newFact h.2 (fun i hi => by cases hi) (fun d i hi => by simpa [refsOf, refs0] using hi)
    · cases h
  case h_8 t x hx =>
    exfalso
    unfold loadO at h
    replace h := opt_some.1 h
    obtain ⟨_, _, h⟩ := h
    replace h := opt_some.1 h
    obtain ⟨_, _, h⟩ := h
    split at h
    · replace h := (cond_some.1 h).2; cases h
    · replace h := (cond_some.1 h).2
      split at h
      · replace h := (cond_some.1 h).2
        replace h := opt_some.1 h
        obtain ⟨_, _, h⟩ := h
        replace h := opt_some.1 h
        obtain ⟨_, _, h⟩ := h
        cases h
      · cases h
    · replace h := (cond_some.1 h).2
      split at h
      · replace h := (cond_some.1 h).2
        replace h := opt_some.1 h
        obtain ⟨_, _, h⟩ := h
        revert h
        generalize (Nat.beq _ _ && _) = b1
        intro h
        cases b1 <;> cases h
      · cases h
    · cases h
  case h_9 t x y hx =>
    unfold storeO at h
    replace h := opt_some.1 h
    obtain ⟨ti, _, h⟩ := h
    replace h := opt_some.1 h
    obtain ⟨s, hs, h⟩ := h
    replace h := opt_some.1 h
    obtain ⟨s', hs', h⟩ := h
    have hw : ∀ i, i ∈ refsOf s → i ∈ wrAt st o := fun i hi => by
      obtain ⟨t', rfl, ht'⟩ := ev_refs hs hi
      simp [wrAt, hx, opdUses, refsAt, ht', hi]
    split at h
    · replace h := (cond_some.1 h).2
      split at h
      · rename_i u bc hob
        replace h := (cond_some.1 h).2
        replace h := opt_some.1 h
        obtain ⟨ui, _, h⟩ := h
        replace h := opt_some.1 h
        obtain ⟨c', hc', h⟩ := h
        injection h with h; injection h with h1 h2 h3 h4 h5; subst h2 h3 h4 h5
        refine ⟨rfl, ?_, (fun i hi => by cases hi), .inr ⟨hw _ (by simp [refsOf, refs0]), _, hob⟩⟩
        intro i hi
        have hcells : ∀ s0 ∈ bc.toCells ui, ∀ i, i ∈ refs0 s0 → ∃ o, st.objs i = some o := by
          intro s0 h0 i hi
          cases bc with
          | whole d =>
            have : i ∈ refsL (expand ui.cells d 0) := mem_refsL.2 ⟨s0, h0, hi⟩
            rw [expand_refs] at this; cases this
          | cells l => exact hwf.cells _ _ hob i (mem_refsL.2 ⟨s0, h0, hi⟩)
        have hset : ∀ (xs : List SV) (cs : List SV) (off : Nat) (s0 : SV), s0 ∈ setSVs cs off xs → s0 ∈ cs ∨ s0 ∈ xs := by
          intro xs
          induction xs with
          | nil => intro cs off s0 h; exact .inl h
          | cons x r ih =>
            intro cs off s0 h
            rcases ih _ _ _ h with h | h
            · rcases List.mem_or_eq_of_mem_set h with h | h
              · exact .inl h
              · exact .inr (by rw [h]; exact List.mem_cons_self)
            · exact .inr (List.mem_cons_of_mem _ h)
        right
        rcases boxStore_cases hc' with ⟨q, d, _, hd, ⟨_, _, rfl⟩ | ⟨tu, _, rfl⟩⟩ | ⟨_, rfl, hcase⟩ | ⟨q, ks, l, _, rfl, _, rfl⟩
        · cases hi
        · obtain ⟨s0, h0, hi⟩ := mem_refsL.1 hi
          rcases hset _ _ _ _ h0 with h0 | h0
          · exact hcells s0 h0 i hi
          · have : i ∈ refsL (expand tu.cells d 0) := mem_refsL.2 ⟨s0, h0, hi⟩
            rw [expand_refs] at this; cases this
        · obtain ⟨s0, h0, hi0⟩ := mem_refsL.1 hi
          rcases List.mem_or_eq_of_mem_set h0 with h0 | h0
          · exact hcells s0 h0 i hi0
          · subst h0
            exact ev_there hwf hs' i (refs_of_refs0 hi0)
        · obtain ⟨s0, h0, hi0⟩ := mem_refsL.1 hi
          rcases hset _ _ _ _ h0 with h0 | h0
          · exact hcells s0 h0 i hi0
          · exact ev_there hwf hs' i (mem_refsL.2 ⟨s0, h0, hi0⟩)
      · cases h
    · replace h := (cond_some.1 h).2
      replace h := opt_some.1 h
      obtain ⟨d, _, h⟩ := h
      split at h
      · rename_i e es hob
        replace h := (cond_some.1 h).2
        replace h := opt_some.1 h
        obtain ⟨c', _, h⟩ := h
        revert h
        generalize (Nat.beq _ _ && _) = b1
        generalize (isAggK _) = b2
        intro h
        cases b1 <;> cases b2 <;> first
          | (cases h; done)
          | (injection h with h; injection h with h1 h2 h3 h4 h5; subst h2 h3 h4 h5; exact ⟨rfl, (fun i hi => by cases hi), (fun i hi => by cases hi), .inr ⟨hw _ (by simp [refsOf, refs0]), _, hob⟩⟩)
      · cases h
    · cases h
  case h_10 op t x y yt hx =>
    exfalso
    replace h := opt_some.1 h
    obtain ⟨s1, hs1, h⟩ := h
    replace h := opt_some.1 h
    obtain ⟨s2, hs2, h⟩ := h
    unfold binO at h
    split at h
    · revert h
      generalize (isShift op) = b1
      intro h
      cases b1 with
      | true => exact shiftOp_st h
      | false => exact intOp_st (cond_some.1 h).2
    · exact strOp_st h
    · split at h
      · exact boolOp_st (cond_some.1 h).2
      · cases h
    · cases h
  case h_11 op t x hx =>
    exfalso
    replace h := opt_some.1 h
    obtain ⟨s1, hs1, h⟩ := h
    unfold unO at h
    split at h <;> cases h
  case h_12 s t x hx =>
    unfold convertO at h
    replace h := opt_some.1 h
    obtain ⟨si, hsi, h⟩ := h
    replace h := opt_some.1 h
    obtain ⟨ti, hti, h⟩ := h
    replace h := opt_some.1 h
    obtain ⟨s1, hs1, h⟩ := h
    split at h
    · cases h
    · cases h
    · replace h := opt_some.1 (cond_some.1 h).2
      obtain ⟨_, _, h⟩ := h
      replace h := (cond_some.1 h).2
      cases h
    · split at h
      · replace h := opt_some.1 (cond_some.1 h).2
        obtain ⟨_, _, h⟩ := h
        replace h := (cond_some.1 h).2
        cases h
      · cases h
    · replace h := opt_some.1 h
      obtain ⟨_, _, h⟩ := h
      replace h := (cond_some.1 h).2
      cases h
    · replace h := opt_some.1 h
      obtain ⟨ei, hei, h⟩ := h
      exact newFact (cond_some.1 h).2 (fun i hi => by cases hi) (fun d i hi => by simpa [refsOf, refs0] using hi)
    · cases h
  case h_13 t x y hx =>
    unfold makeSliceO at h
    replace h := opt_some.1 h
    obtain ⟨ti, _, h⟩ := h
    replace h := opt_some.1 h
    obtain ⟨n, _, h⟩ := h
    replace h := opt_some.1 h
    obtain ⟨m, _, h⟩ := h
    split at h
    · replace h := opt_some.1 h
      obtain ⟨ei, _, h⟩ := h
      split at h
      · cases h
      · cases h
      · exact newFact (cond_some.1 h).2 (fun i hi => by cases hi) (fun d i hi => by simpa [refsOf, refs0] using hi)
    · cases h
  case h_14 t x lo hi mx hx =>
    exfalso
    unfold sliceO at h
    split at h
    · cases h
    · replace h := opt_some.1 h
      obtain ⟨ti, _, h⟩ := h
      replace h := opt_some.1 h
      obtain ⟨s, _, h⟩ := h
      replace h := opt_some.1 h
      obtain ⟨l, _, h⟩ := h
      replace h := opt_some.1 h
      obtain ⟨hh, _, h⟩ := h
      split at h
      · cases h
      · replace h := (cond_some.1 h).2
        cases h
      · cases h
      · cases h
  case h_15 t x f hx =>
    exfalso
    unfold fieldAddrO at h
    replace h := opt_some.1 h
    obtain ⟨_, _, h⟩ := h
    replace h := opt_some.1 h
    obtain ⟨_, _, h⟩ := h
    replace h := opt_some.1 h
    obtain ⟨_, _, h⟩ := h
    replace h := (cond_some.1 h).2
    replace h := opt_some.1 h
    obtain ⟨s, hs, h⟩ := h
    split at h
    · replace h := (cond_some.1 h).2; cases h
    · replace h := (cond_some.1 h).2; cases h
    · replace h := (cond_some.1 h).2; cases h
    · cases h
  case h_16 t x y hx =>
    exfalso
    unfold indexAddrO at h
    replace h := opt_some.1 h
    obtain ⟨_, _, h⟩ := h
    replace h := opt_some.1 h
    obtain ⟨s, hs, h⟩ := h
    replace h := opt_some.1 h
    obtain ⟨_, _, h⟩ := h
    split at h
    · replace h := (cond_some.1 h).2
      replace h := opt_some.1 h
      obtain ⟨_, _, h⟩ := h
      cases h
    · split at h
      · replace h := (cond_some.1 h).2
        replace h := opt_some.1 h
        obtain ⟨_, _, h⟩ := h
        cases h
      · cases h
    · cases h
  case h_17 t x y hx =>
    exfalso
    unfold indexO at h
    replace h := opt_some.1 h
    obtain ⟨_, _, h⟩ := h
    replace h := opt_some.1 h
    obtain ⟨_, _, h⟩ := h
    replace h := opt_some.1 h
    obtain ⟨_, _, h⟩ := h
    split at h <;> cases h
  case h_18 x hx =>
    exfalso
    replace h := opt_some.1 h
    obtain ⟨s, hs, h⟩ := h
    split at h <;> cases h
  case h_19 x i hx =>
    exfalso
    replace h := opt_some.1 h
    obtain ⟨s, hs, h⟩ := h
    split at h
    · split at h <;> cases h
    · cases h
  case h_20 cl hx =>
    exfalso
    unfold callO at h
    split at h
    · replace h := opt_some.1 h
      obtain ⟨sg, _, h⟩ := h
      rcases callF_out h with ⟨_, _, h⟩ | ⟨h, _⟩ <;> cases h
    · split at h
      · unfold lenO at h
        replace h := opt_some.1 h
        obtain ⟨_, _, h⟩ := h
        replace h := opt_some.1 h
        obtain ⟨_, _, h⟩ := h
        split at h
        · cases h
        · cases h
        · cases h
        · split at h <;> cases h
        · cases h
      · cases h
    · rename_i hcl
      simp [opEff, hx, hcl] at hall
    all_goals first | (cases h; done) | (
      unfold mmO at h
      split at h
      · cases h
      · replace h := opt_some.1 h
        obtain ⟨_, _, h⟩ := h
        split at h
        · replace h := opt_some.1 h
          obtain ⟨_, _, h⟩ := h
          cases h
        · cases h)
  case h_21 => cases h
  case h_22 t x f hx => exact (fieldO_ob h).elim
  case h_23 => cases h

/-- Results that are values alone. -/
theorem resSV_vals : ∀ (rs : List RM) (base j : Nat) (ds : List D), allValR rs = true → ∃ svs, resSV rs base j ds = some (svs, []) ∧ refsL svs = [] ∧ ∀ t, .tup t ∉ svs := by
  intro rs
  induction rs with
  | nil => intro base j ds _; exact ⟨[], rfl, rfl, fun t h => by cases h⟩
  | cons r rs ih =>
    intro base j ds h
    cases r with
    | val k =>
      obtain ⟨svs, h1, h2, h3⟩ := ih base (j + 1) ds h
      refine ⟨.val k (canon k (ds.getD j .no)) :: svs, ?_, ?_, ?_⟩
      · simp only [resSV, h1, opt_val]
      · simp only [refsL, refs0, List.nil_append, h2]
      · intro t ht
        rcases List.mem_cons.1 ht with ht | ht
        · cases ht
        · exact h3 t ht
    | any =>
      obtain ⟨svs, h1, h2, h3⟩ := ih base (j + 1) ds h
      refine ⟨.gone :: svs, ?_, ?_, ?_⟩
      · simp only [resSV, h1, opt_val]
      · simp only [refsL, refs0, List.nil_append, h2]
      · intro t ht
        rcases List.mem_cons.1 ht with ht | ht
        · cases ht
        · exact h3 t ht
    | own e => cases h

theorem resUpd_vals {rs : List RM} (hv : allValR rs = true) (dst : Option Nat) (ds : List D) : ∃ v, (∀ st, resUpd st rs dst ds = some ⟨v, none, []⟩) ∧ refsOf v = [] := by
  cases dst with
  | none =>
    cases rs with
    | nil => exact ⟨.gone, fun _ => rfl, rfl⟩
    | cons r rs =>
      obtain ⟨svs, h1, _, _⟩ := resSV_vals (r :: rs) 0 0 ds hv
      exact ⟨.gone, fun _ => by simp only [resUpd, h1, opt_val, hv, cond_true], rfl⟩
  | some t =>
    cases rs with
    | nil => exact ⟨.tup [], fun _ => rfl, rfl⟩
    | cons r rs =>
      cases rs with
      | nil =>
        cases r with
        | val k => exact ⟨.val k (canon k (ds.getD 0 .no)), fun _ => rfl, rfl⟩
        | any => exact ⟨.gone, fun _ => rfl, rfl⟩
        | own e => cases hv
      | cons r2 rs =>
        obtain ⟨svs, h1, h2, _⟩ := resSV_vals (r :: r2 :: rs) (500000 + 16 * t) 0 ds hv
        exact ⟨.tup svs, fun _ => by simp only [resUpd, h1, opt_val, freshAll, cond_true], h2⟩

end
end Go.Proofs.YtjofkhdnidjleabDoor.DS
