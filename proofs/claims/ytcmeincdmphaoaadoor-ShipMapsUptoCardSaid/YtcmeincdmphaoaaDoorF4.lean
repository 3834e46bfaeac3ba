/- The data-level semantics: plain data, an interpreter of the program over them, and its soundness; part 4. -/
import Derived.Test.YtcmeincdmphaoaaDoorF3
set_option linter.unusedVariables false
set_option linter.unusedSimpArgs false
namespace Go.Proofs.YtcmeincdmphaoaaDoor.DS

section
variable {E : Env} {st st' : St} {ops : List Oper} {L : List (Nat × Bool)} (hwf : WF st)

def objX : Obj → List Nat
  | .box _ (.cells l) => cellX l
  | _ => []
/-- An object that an operation lays in a region whose order is open. -/
structure ObFact (st : St) (o : Oper) (id : Nat) (ob : Obj) (scr : Bool) (v : SV) : Prop where
  scr : scr = false ∨ ((∃ e es, ob = .arr e es) ∧ scr = true ∧ id ∈ scAt st o)
  refs : ∀ i, i ∈ objRefs0 ob → i = id ∨ ∃ o, st.objs i = some o
  deep : ∀ i, i ∈ objX ob → i = id ∨ Dp st o i
  vrefs : ∀ i, i ∈ refsOf v → i = id
  kind : (st.objs id = none ∧ o.dst = some id) ∨ (id ∈ wrAt st o ∧ (∃ ob0, st.objs id = some ob0))

theorem newFact {o : Oper} {ob ob' : Obj} {vv : Nat → SV} {c0 c scr : Bool} {id : Nat} {v : SV} (h : withObj st o.dst ob vv c0 = some (.ob c id ob' scr v)) (hr : ∀ i, i ∈ objRefs0 ob → i = id ∨ ∃ o, st.objs i = some o) (hdp : ∀ i, i ∈ objX ob → i = id ∨ Dp st o i) (hv : ∀ d i, i ∈ refsOf (vv d) → i = d) : ObFact st o id ob' scr v := by
  obtain ⟨hd, hf, hc, rfl, rfl, rfl⟩ := withObj_st h
  exact ⟨.inl rfl, hr, hdp, fun i hi => hv id i hi, .inl ⟨hf, hd⟩⟩

theorem zeroSV_refs (l : List KT) (id : Nat) : ∀ i, i ∈ refsL (l.map (zeroSV id)) → i = id := by
  intro i hi
  obtain ⟨s, hs, hi⟩ := mem_refsL.1 hi
  obtain ⟨k, _, rfl⟩ := List.mem_map.1 hs
  cases k <;> simp [zeroSV, refs0] at hi
  exact hi
theorem mem_cellX {i : Nat} {l : List SV} : i ∈ cellX l ↔ ∃ s ∈ l, i ∈ xrefs s := by
  induction l with
  | nil => simp [cellX]
  | cons s r ih => simp [cellX, ih]
theorem zeroSV_cellX (l : List KT) (id : Nat) : ∀ i, i ∈ cellX (l.map (zeroSV id)) → i = id := by
  intro i hi
  obtain ⟨s, hs, hi⟩ := mem_cellX.1 hi
  obtain ⟨k, _, rfl⟩ := List.mem_map.1 hs
  cases k <;> simp [zeroSV, xrefs, refsOf, refs0] at hi
  exact hi
theorem expand_val (ks : List KT) (d : D) : ∀ (n : Nat) (s : SV), s ∈ expand ks d n → ∃ k d', s = .val k d' := by
  induction ks with
  | nil => intro n s h; cases h
  | cons k r ih =>
    intro n s h
    rcases List.mem_cons.1 h with rfl | h
    · exact ⟨_, _, rfl⟩
    · exact ih _ _ h
theorem boxStore_mem {tt : TT} {t : TypeId} {ti : TI} {c c' : BC} {off : Nat} {k : KT} {s : SV} (h : boxStore tt t ti c off k s = some c') : ∀ l, c' = .cells l → ∀ s0 ∈ l, s0 ∈ c.toCells ti ∨ (∃ k d, s0 = .val k d) ∨ (xrefs s0 = refs0 s0 ∧ ∀ i, i ∈ refs0 s0 → i ∈ refsOf s) := by
  intro l hl s0 h0
  subst hl
  rcases boxStore_cases h with ⟨q, d, _, _, ⟨_, _, e⟩ | ⟨tu, _, e⟩⟩ | ⟨_, e, hc⟩ | ⟨q, ks, l', _, rfl, hk, e⟩
  · cases e
  · injection e with e; subst e
    rcases setSVs_mem _ _ _ _ h0 with h0 | h0
    · exact .inl h0
    · exact .inr (.inl (expand_val _ _ _ _ h0))
  · injection e with e; subst e
    rcases List.mem_or_eq_of_mem_set h0 with h0 | h0
    · exact .inl h0
    · subst h0
      rcases hc with ⟨d, rfl⟩ | rfl | ⟨id, rfl⟩
      · exact .inr (.inl ⟨_, _, rfl⟩)
      · exact .inr (.inr ⟨rfl, fun i hi => by cases hi⟩)
      · exact .inr (.inr ⟨rfl, fun i hi => hi⟩)
  · injection e with e; subst e
    rcases setSVs_mem _ _ _ _ h0 with h0 | h0
    · exact .inl h0
    · have h1 := allKnown_mem hk s0 h0
      refine .inr (.inr ⟨?_, fun i hi => mem_refsL.2 ⟨s0, h0, hi⟩⟩)
      cases s0 <;> first | rfl | cases h1
theorem flatC_mem : ∀ {l : List SV}, flatC l = true → ∀ s ∈ l, xrefs s = refs0 s := by
  intro l
  induction l with
  | nil => intro _ s h; cases h
  | cons x r ih =>
    intro h s hs
    cases x with
    | tup l => cases h
    | sag _ _ _ => cases h
    | gonel l =>
      cases l with
      | cons _ _ => cases h
      | nil =>
        rcases List.mem_cons.1 hs with rfl | hs
        · rfl
        · exact ih h s hs
    | _ =>
      rcases List.mem_cons.1 hs with rfl | hs
      · rfl
      · exact ih h s hs
theorem boxC_cellX {t : TypeId} {ti : TI} {s : SV} {c : BC} (h : boxC t ti s = some c) : ∀ i, i ∈ objX (.box t c) → i ∈ refsOf s := by
  intro i hi
  unfold boxC at h
  split at h
  · split at h
    · obtain ⟨hb, h⟩ := cond_some.1 h
      injection h with h; subst h
      obtain ⟨x, hx, hi⟩ := mem_cellX.1 hi
      simp only [Bool.and_eq_true] at hb
      rw [flatC_mem hb.2 x hx] at hi
      exact mem_refsL.2 ⟨x, hx, hi⟩
    · obtain ⟨d, _, h⟩ := opt_some.1 h
      injection h with h; subst h; cases hi
  · split at h
    · injection h with h; subst h; simp [objX, cellX, xrefs, refsOf, refs0] at hi
    · injection h with h; subst h; simpa [objX, cellX, xrefs, refsOf, refs0] using hi
    · obtain ⟨d, _, h⟩ := opt_some.1 h
      injection h with h; subst h; simp [objX, cellX, xrefs, refsOf, refs0] at hi
  · obtain ⟨d, _, h⟩ := opt_some.1 h
    injection h with h; subst h; simp [objX, cellX, xrefs, refsOf, refs0] at hi
theorem boxC_refs {t : TypeId} {ti : TI} {s : SV} {c : BC} (h : boxC t ti s = some c) : ∀ i, i ∈ objRefs0 (.box t c) → i ∈ refsOf s := by
  intro i hi
  unfold boxC at h
  split at h
  · split at h
    · replace h := (cond_some.1 h).2
      injection h with h; subst h; exact hi
    · obtain ⟨d, _, h⟩ := opt_some.1 h
      injection h with h; subst h; cases hi
  · split at h
    · injection h with h; subst h; simp [objRefs0, refsL, refs0] at hi
    · injection h with h; subst h; simpa [objRefs0, refsL, refs0, refsOf] using hi
    · obtain ⟨d, _, h⟩ := opt_some.1 h
      injection h with h; subst h; simp [objRefs0, refsL, refs0] at hi
  · obtain ⟨d, _, h⟩ := opt_some.1 h
    injection h with h; subst h; simp [objRefs0, refsL, refs0] at hi
theorem mem_refsAt {i : Nat} {l : List Nat} : i ∈ refsAt st l ↔ ∃ t ∈ l, ∃ s, st.slots t = some s ∧ i ∈ refsOf s := by
  induction l with
  | nil => simp [refsAt]
  | cons t r ih =>
    simp only [refsAt, List.mem_cons, exists_eq_or_imp]
    cases st.slots t with
    | none => simp [ih]
    | some s => simp [ih]
theorem mem_boxX {i : Nat} {l : List Nat} : i ∈ boxX st l ↔ ∃ j ∈ l, i ∈ box1X st j := by
  induction l with
  | nil => simp [boxX]
  | cons s r ih => simp [boxX, ih]
/-- An append. -/
theorem append_fact {o : Oper} {cl : Call} (hx : o.op = .call cl) (hcl : cl.callee = .builtin .append) {c : Bool} {id : Nat} {ob : Obj} {scr : Bool} {v : SV}
    (h : (match cl.args.toList, cl.argTypes.toList with
      | [s, x], [t, xt] => appendO E st ops L o.dst t xt s x
      | _, _ => none) = some (.ob c id ob scr v)) : ObFact st o id ob scr v := by
  split at h
  · rename_i s x t xt ha ht
    unfold appendO at h
    obtain ⟨ti, _, h⟩ := opt_some.1 h
    obtain ⟨xi, _, h⟩ := opt_some.1 h
    obtain ⟨s1, hs1, h⟩ := opt_some.1 h
    obtain ⟨s2, hs2, h⟩ := opt_some.1 h
    split at h
    · obtain ⟨ei, _, h⟩ := opt_some.1 h
      obtain ⟨_, h⟩ := cond_some.1 h
      obtain ⟨ds, _, h⟩ := opt_some.1 h
      have hown : ∀ {id0 : Nat} {e e' : TypeId} {es : List D}, ev st ops L s = some (.own id0) → (match st.objs id0 with
          | some (.arr e' es) => cond (Nat.beq e e') (some (Out.ob (fitL es.length ds.length) id0 (.arr e (es ++ ds)) true (.own id0))) none
          | _ => none) = some (.ob c id ob scr v) → ObFact st o id ob scr v := by
        intro id0 e e' es h1 h2
        split at h2
        · rename_i e'' es'' hob
          obtain ⟨_, h2⟩ := cond_some.1 h2
          injection h2 with h2; injection h2 with q1 q2 q3 q4 q5; subst q2 q3 q4 q5
          obtain ⟨t', rfl, ht'⟩ := ev_refs (i := id0) h1 (by simp [refsOf, refs0])
          have hm : id0 ∈ refsAt st (opdUses (.tmp t')) := mem_refsAt.2 ⟨t', by simp [opdUses], _, ht', by simp [refsOf, refs0]⟩
          refine ⟨.inr ⟨⟨_, _, rfl⟩, rfl, ?_⟩, (fun i hi => by cases hi), (fun i hi => by cases hi), (fun i hi => by simpa [refsOf, refs0] using hi), .inr ⟨?_, _, hob⟩⟩
          · unfold scAt; rw [hx]; simp only [hcl, ha]; exact hm
          · unfold wrAt; rw [hx]; simp only [hcl, ha]; exact hm
        · cases h2
      split at h
      · exact newFact h (fun i hi => by cases hi) (fun i hi => by cases hi) (fun d i hi => by simpa [refsOf, refs0] using hi)
      · split at h
        · obtain ⟨_, h⟩ := (by
            cases hb : Nat.beq _ _ with
            | true => rw [hb] at h; cases h
            | false => rw [hb] at h; exact ⟨trivial, h⟩ : True ∧ _)
          exact hown (es := []) (e' := 0) hs1 h
        · exact hown (es := []) (e' := 0) hs1 h
      · cases h
    · cases h
  · cases h

include hwf in
theorem ob_fact {o : Oper} (hall : (opEff o).all = false) {c : Bool} {id : Nat} {ob : Obj} {scr : Bool} {v : SV} (h : opO E true st ops L o = some (.ob c id ob scr v)) : ObFact st o id ob scr v := by
  by_cases happ : ∃ cl, o.op = .call cl ∧ cl.callee = .builtin .append
  · obtain ⟨cl, hx, hcl⟩ := happ
    unfold opO at h
    rw [hx] at h
    simp only [callO, hcl] at h
    exact append_fact hx hcl h
  have hnapp : ∀ cl, o.op = .call cl → cl.callee = .builtin .append → False := fun cl h1 h2 => happ ⟨cl, h1, h2⟩
  unfold opO at h
  split at h
  case h_1 x hx =>
    exfalso
    unfold moveO at h
    split at h
    · replace h := opt_some.1 h
      obtain ⟨_, _, h⟩ := h
      split at h
      · replace h := opt_some.1 h
        obtain ⟨_, _, h⟩ := h
        cases h
      · cases h
    · replace h := opt_some.1 h
      obtain ⟨_, _, h⟩ := h
      cases h
  case h_2 x hx =>
    exfalso
    unfold moveO at h
    split at h
    · replace h := opt_some.1 h
      obtain ⟨_, _, h⟩ := h
      split at h
      · replace h := opt_some.1 h
        obtain ⟨_, _, h⟩ := h
        cases h
      · cases h
    · replace h := opt_some.1 h
      obtain ⟨_, _, h⟩ := h
      cases h
  case h_3 x y z hx =>
    exfalso
    unfold pickO at h
    replace h := opt_some.1 h
    obtain ⟨tc, _, h⟩ := h
    replace h := opt_some.1 h
    obtain ⟨sc, _, h⟩ := h
    split at h
    · split at h
      · replace h := (cond_some.1 h).2
        split at h
        · revert h
          generalize (sameTmp tc y) = b1
          generalize (sameTmp tc z) = b2
          intro h
          cases b1 <;> cases b2 <;> cases h
        · cases h
      · cases h
    · cases h
  case h_4 t hx =>
    unfold allocO at h
    replace h := opt_some.1 h
    obtain ⟨ti, _, h⟩ := h
    obtain ⟨hd, _⟩ := withObj_st h
    exact newFact h (fun i hi => .inl (by rw [hd] at hi; exact zeroSV_refs _ _ i hi)) (fun i hi => .inl (by rw [hd] at hi; exact zeroSV_cellX _ _ i hi)) (fun d i hi => by simpa [refsOf, refs0] using hi)
  case h_5 t x hx =>
    unfold boxO at h
    replace h := opt_some.1 h
    obtain ⟨ti, _, h⟩ := h
    replace h := opt_some.1 h
    obtain ⟨s, hs, h⟩ := h
    replace h := opt_some.1 h
    obtain ⟨c, hc, h⟩ := h
    exact newFact h (fun i hi => .inr (ev_there hwf hs i (boxC_refs hc i hi))) (fun i hi => .inr (ev_dp (by simp [hx, Op.operands]) hs i (boxC_cellX hc i hi))) (fun d i hi => by simpa [refsOf, refs0] using hi)
  case h_6 t ps hx =>
    exfalso
    obtain ⟨_, h⟩ := buildO_sv h
    cases h
  case h_7 t n ps hx =>
    unfold buildSliceO at h
    replace h := opt_some.1 h
    obtain ⟨ti, _, h⟩ := h
    split at h
    · replace h := opt_some.1 h
      obtain ⟨ei, _, h⟩ := h
      replace h := opt_some.1 h
      obtain ⟨ds, _, h⟩ := h
      replace h := cond_some.1 h
      exact newFact h.2 (fun i hi => by cases hi) (fun i hi => by cases hi) (fun d i hi => by simpa [refsOf, refs0] using hi)
    · cases h
  case h_8 t x hx =>
    exfalso
    unfold loadO at h
    replace h := opt_some.1 h
    obtain ⟨_, _, h⟩ := h
    replace h := opt_some.1 h
    obtain ⟨_, _, h⟩ := h
    split at h
    · replace h := (cond_some.1 h).2; cases h
    · replace h := (cond_some.1 h).2
      split at h
      · replace h := (cond_some.1 h).2
        replace h := opt_some.1 h
        obtain ⟨_, _, h⟩ := h
        replace h := opt_some.1 h
        obtain ⟨_, _, h⟩ := h
        cases h
      · cases h
    · replace h := (cond_some.1 h).2
      split at h
      · replace h := (cond_some.1 h).2
        replace h := opt_some.1 h
        obtain ⟨_, _, h⟩ := h
        revert h
        generalize (Nat.beq _ _ && _) = b1
        intro h
        cases b1 <;> cases h
      · cases h
    · cases h
  case h_9 t x y hx =>
    unfold storeO at h
    replace h := opt_some.1 h
    obtain ⟨ti, _, h⟩ := h
    replace h := opt_some.1 h
    obtain ⟨s, hs, h⟩ := h
    replace h := opt_some.1 h
    obtain ⟨s', hs', h⟩ := h
    have hw : ∀ i, i ∈ refsOf s → i ∈ wrAt st o := fun i hi => by
      obtain ⟨t', rfl, ht'⟩ := ev_refs hs hi
      simp [wrAt, hx, opdUses, refsAt, ht', hi]
    split at h
    · rename_i id0 u0 off0 k0
      replace h := (cond_some.1 h).2
      split at h
      · rename_i u bc hob
        replace h := (cond_some.1 h).2
        replace h := opt_some.1 h
        obtain ⟨ui, _, h⟩ := h
        replace h := opt_some.1 h
        obtain ⟨c', hc', h⟩ := h
        injection h with h; injection h with h1 h2 h3 h4 h5; subst h2 h3 h4 h5
        have hdp : ∀ i, i ∈ box1X st id0 → Dp st o i := by
          intro i hi
          obtain ⟨t', rfl, ht'⟩ := ev_refs (i := id0) hs (by simp [refsOf, refs0])
          refine .inr ?_
          unfold opX
          rw [hx]
          simp only [opEff, hx, Bool.false_or, cond_true]
          refine mem_boxX.2 ⟨id0, mem_refsAt.2 ⟨t', opdsUses_mem (x := .tmp t') (by simp [Op.operands]) rfl, _, ht', by simp [refsOf, refs0]⟩, hi⟩
        have hcell : ∀ s0 ∈ bc.toCells ui, (∃ k d, s0 = .val k d) ∨ ∃ l, bc = .cells l ∧ s0 ∈ l := by
          intro s0 h0
          cases bc with
          | whole d => exact .inl (expand_val _ _ _ _ h0)
          | cells l => exact .inr ⟨l, rfl, h0⟩
        refine ⟨.inl rfl, ?_, ?_, (fun i hi => by cases hi), .inr ⟨hw _ (by simp [refsOf, refs0]), _, hob⟩⟩
        · intro i hi
          cases hc2 : c' with
          | whole d => rw [hc2] at hi; cases hi
          | cells l =>
            rw [hc2] at hi
            obtain ⟨s0, h0, hi⟩ := mem_refsL.1 (show i ∈ refsL l from hi)
            rcases boxStore_mem hc' l hc2 s0 h0 with h1 | ⟨_, _, rfl⟩ | ⟨_, h1⟩
            · rcases hcell s0 h1 with ⟨_, _, rfl⟩ | ⟨l', rfl, h1⟩
              · cases hi
              · exact .inr (hwf.cells _ _ hob i (mem_refsL.2 ⟨s0, h1, hi⟩))
            · cases hi
            · exact .inr (ev_there hwf hs' i (h1 i hi))
        · intro i hi
          cases hc2 : c' with
          | whole d => rw [hc2] at hi; cases hi
          | cells l =>
            rw [hc2] at hi
            obtain ⟨s0, h0, hi⟩ := mem_cellX.1 (show i ∈ cellX l from hi)
            rcases boxStore_mem hc' l hc2 s0 h0 with h1 | ⟨_, _, rfl⟩ | ⟨e1, h1⟩
            · rcases hcell s0 h1 with ⟨_, _, rfl⟩ | ⟨l', rfl, h1⟩
              · cases hi
              · exact .inr (hdp i (by unfold box1X; rw [hob]; exact mem_cellX.2 ⟨s0, h1, hi⟩))
            · cases hi
            · rw [e1] at hi
              exact .inr (ev_dp (by simp [hx, Op.operands]) hs' i (h1 i hi))
      · cases h
    · replace h := (cond_some.1 h).2
      replace h := opt_some.1 h
      obtain ⟨d, _, h⟩ := h
      split at h
      · rename_i e es hob
        replace h := (cond_some.1 h).2
        replace h := opt_some.1 h
        obtain ⟨c', _, h⟩ := h
        revert h
        generalize (Nat.beq _ _ && _) = b1
        generalize (isAggK _) = b2
        intro h
        cases b1 <;> cases b2 <;> first
          | (cases h; done)
          | (injection h with h; injection h with h1 h2 h3 h4 h5; subst h2 h3 h4 h5; exact ⟨.inl rfl, (fun i hi => by cases hi), (fun i hi => by cases hi), (fun i hi => by cases hi), .inr ⟨hw _ (by simp [refsOf, refs0]), _, hob⟩⟩)
      · cases h
    · cases h
  case h_10 op t x y yt hx =>
    exfalso
    replace h := opt_some.1 h
    obtain ⟨s1, hs1, h⟩ := h
    replace h := opt_some.1 h
    obtain ⟨s2, hs2, h⟩ := h
    unfold binO at h
    split at h
    · revert h
      generalize (isShift op) = b1
      intro h
      cases b1 with
      | true => exact shiftOp_st h
      | false => exact intOp_st (cond_some.1 h).2
    · exact strOp_st h
    · split at h
      · exact boolOp_st (cond_some.1 h).2
      · cases h
    · split at h
      · replace h := (cond_some.1 h).2
        unfold aggOp at h
        cases op <;> cases h
      · cases h
    · cases h
  case h_11 op t x hx =>
    exfalso
    replace h := opt_some.1 h
    obtain ⟨s1, hs1, h⟩ := h
    unfold unO at h
    split at h <;> cases h
  case h_12 s t x hx =>
    unfold convertO at h
    replace h := opt_some.1 h
    obtain ⟨si, hsi, h⟩ := h
    replace h := opt_some.1 h
    obtain ⟨ti, hti, h⟩ := h
    replace h := opt_some.1 h
    obtain ⟨s1, hs1, h⟩ := h
    split at h
    · cases h
    · cases h
    · replace h := opt_some.1 (cond_some.1 h).2
      obtain ⟨_, _, h⟩ := h
      replace h := (cond_some.1 h).2
      cases h
    · split at h
      · replace h := opt_some.1 (cond_some.1 h).2
        obtain ⟨_, _, h⟩ := h
        replace h := (cond_some.1 h).2
        cases h
      · cases h
    · replace h := opt_some.1 h
      obtain ⟨_, _, h⟩ := h
      replace h := (cond_some.1 h).2
      cases h
    · replace h := opt_some.1 h
      obtain ⟨ei, hei, h⟩ := h
      exact newFact (cond_some.1 h).2 (fun i hi => by cases hi) (fun i hi => by cases hi) (fun d i hi => by simpa [refsOf, refs0] using hi)
    · cases h
  case h_13 t x y hx =>
    unfold makeSliceO at h
    replace h := opt_some.1 h
    obtain ⟨ti, _, h⟩ := h
    replace h := opt_some.1 h
    obtain ⟨n, _, h⟩ := h
    replace h := opt_some.1 h
    obtain ⟨m, _, h⟩ := h
    split at h
    · replace h := opt_some.1 h
      obtain ⟨ei, _, h⟩ := h
      split at h
      · cases h
      · cases h
      · cases h
      · exact newFact (cond_some.1 h).2 (fun i hi => by cases hi) (fun i hi => by cases hi) (fun d i hi => by simpa [refsOf, refs0] using hi)
    · cases h
  case h_14 t x lo hi mx hx =>
    exfalso
    unfold sliceO at h
    split at h
    · cases h
    · replace h := opt_some.1 h
      obtain ⟨ti, _, h⟩ := h
      replace h := opt_some.1 h
      obtain ⟨s, _, h⟩ := h
      replace h := opt_some.1 h
      obtain ⟨l, _, h⟩ := h
      replace h := opt_some.1 h
      obtain ⟨hh, _, h⟩ := h
      split at h
      · cases h
      · replace h := (cond_some.1 h).2
        cases h
      · split at h
        · cases h
        · split at h
          · replace h := (cond_some.1 h).2
            cases h
          · cases h
        · cases h
      · cases h
  case h_15 t x f hx =>
    exfalso
    unfold fieldAddrO at h
    replace h := opt_some.1 h
    obtain ⟨_, _, h⟩ := h
    replace h := opt_some.1 h
    obtain ⟨_, _, h⟩ := h
    replace h := opt_some.1 h
    obtain ⟨_, _, h⟩ := h
    replace h := (cond_some.1 h).2
    replace h := opt_some.1 h
    obtain ⟨s, hs, h⟩ := h
    split at h
    · replace h := (cond_some.1 h).2; cases h
    · replace h := (cond_some.1 h).2; cases h
    · replace h := (cond_some.1 h).2; cases h
    · cases h
  case h_16 t x y hx =>
    exfalso
    unfold indexAddrO at h
    replace h := opt_some.1 h
    obtain ⟨_, _, h⟩ := h
    replace h := opt_some.1 h
    obtain ⟨s, hs, h⟩ := h
    replace h := opt_some.1 h
    obtain ⟨_, _, h⟩ := h
    split at h
    · replace h := (cond_some.1 h).2
      replace h := opt_some.1 h
      obtain ⟨_, _, h⟩ := h
      cases h
    · split at h
      · replace h := (cond_some.1 h).2
        replace h := opt_some.1 h
        obtain ⟨_, _, h⟩ := h
        cases h
      · cases h
    · cases h
  case h_17 t x y hx =>
    exfalso
    unfold indexO at h
    replace h := opt_some.1 h
    obtain ⟨_, _, h⟩ := h
    replace h := opt_some.1 h
    obtain ⟨_, _, h⟩ := h
    replace h := opt_some.1 h
    obtain ⟨_, _, h⟩ := h
    split at h <;> cases h
  case h_18 x hx =>
    exfalso
    replace h := opt_some.1 h
    obtain ⟨s, hs, h⟩ := h
    split at h <;> cases h
  case h_19 x i hx =>
    exfalso
    replace h := opt_some.1 h
    obtain ⟨s, hs, h⟩ := h
    split at h
    · split at h <;> cases h
    · cases h
  case h_20 cl hx =>
    exfalso
    unfold callO at h
    split at h
    · replace h := opt_some.1 h
      obtain ⟨sg, _, h⟩ := h
      rcases callF_out h with ⟨_, _, h⟩ | ⟨_, _, _, h⟩ <;> cases h
    · split at h
      · unfold lenO at h
        replace h := opt_some.1 h
        obtain ⟨_, _, h⟩ := h
        replace h := opt_some.1 h
        obtain ⟨_, _, h⟩ := h
        split at h
        · cases h
        · cases h
        · cases h
        · split at h <;> cases h
        · cases h
      · cases h
    · rename_i hcl
      exfalso
      exact hnapp cl hx hcl
    all_goals first | (cases h; done) | (split at h <;> first | (obtain ⟨_, _, _, _, _, _, _, hdr, h⟩ := copyO_inv h; cases hdr; done) | (cases h; done)) | (
      unfold mmO at h
      split at h
      · cases h
      · replace h := opt_some.1 h
        obtain ⟨_, _, h⟩ := h
        split at h
        · replace h := opt_some.1 h
          obtain ⟨_, _, h⟩ := h
          cases h
        · cases h)
  case h_21 => cases h
  case h_22 t x f hx => exact (fieldO_ob h).elim
  case h_23 t hx => simp [opEff, hx] at hall
  case h_24 t m x ok hx => exact (lookupO_ob h).elim
  case h_25 t m x y hx => simp [opEff, hx] at hall
  case h_26 t m x y hx => simp [opEff, hx] at hall
  case h_27 => cases h

/-- Results that are values alone. -/
theorem resSV_vals : ∀ (rs : List RM) (base j : Nat) (ds : List D), allValR rs = true → ∃ svs, resSV rs base j ds = some (svs, []) ∧ refsL svs = [] ∧ ∀ t, .tup t ∉ svs := by
  intro rs
  induction rs with
  | nil => intro base j ds _; exact ⟨[], rfl, rfl, fun t h => by cases h⟩
  | cons r rs ih =>
    intro base j ds h
    cases r with
    | val k =>
      obtain ⟨svs, h1, h2, h3⟩ := ih base (j + 1) ds h
      refine ⟨.val k (canon k (ds.getD j .no)) :: svs, ?_, ?_, ?_⟩
      · simp only [resSV, h1, opt_val]
      · simp only [refsL, refs0, List.nil_append, h2]
      · intro t ht
        rcases List.mem_cons.1 ht with ht | ht
        · cases ht
        · exact h3 t ht
    | any =>
      obtain ⟨svs, h1, h2, h3⟩ := ih base (j + 1) ds h
      refine ⟨.gone :: svs, ?_, ?_, ?_⟩
      · simp only [resSV, h1, opt_val]
      · simp only [refsL, refs0, List.nil_append, h2]
      · intro t ht
        rcases List.mem_cons.1 ht with ht | ht
        · cases ht
        · exact h3 t ht
    | own e => cases h
    | mp _ => cases h

theorem own1_val {draw : Bool} {rs : List RM} (h : allValR rs = true) : own1 draw rs = false := by
  cases draw with
  | false => rfl
  | true =>
    match rs, h with
    | [], _ => rfl
    | .val _ :: _, _ => rfl
    | .any :: _, _ => rfl
theorem own1_inv {draw : Bool} {rs : List RM} (h : own1 draw rs = true) : ∃ e, rs = [.own e] := by
  cases draw with
  | false => cases h
  | true =>
    match rs, h with
    | [.own e], _ => exact ⟨e, rfl⟩
theorem resUpd_own (st : St) (e : TypeId) (dst : Option Nat) (ds : List D) : resUpd st [.own e] dst ds = match dst with
    | none => none
    | some t => cond (fresh st t) (some ⟨.own t, none, [(t, .arr e (ds.getD 0 .no).toList)]⟩) none := by
  cases dst with
  | none => rfl
  | some t =>
    show cond (freshAll st [(t, _)]) _ none = _
    simp only [freshAll]
    cases fresh st t <;> rfl
theorem resUpdD_own (st : St) (e : TypeId) (dst : Option Nat) (ds : List D) : resUpdD true st [.own e] dst ds = match dst with
    | none => none
    | some t => cond (fresh st t) (some ⟨.own t, some (t, .arr e (ds.getD 0 .no).toList, false), []⟩) none := by
  show opt (resUpd st [.own e] dst ds) _ = _
  rw [resUpd_own]
  cases dst with
  | none => rfl
  | some t =>
    simp only
    cases fresh st t <;> rfl
theorem resUpdD_inv {draw : Bool} {st st' : St} {rs : List RM} {dst : Option Nat} {ds : List D} {u : Upd} (h : resUpdD draw st rs dst ds = some u) (hu : applyU st dst u = some st') : ∃ u0, resUpd st rs dst ds = some u0 ∧ applyU st dst u0 = some st' := by
  cases ho : own1 draw rs with
  | false =>
    unfold resUpdD at h
    rw [ho] at h
    exact ⟨u, h, hu⟩
  | true =>
    obtain ⟨e, rfl⟩ := own1_inv ho
    have hd : draw = true := by cases draw with | false => cases ho | true => rfl
    subst hd
    rw [resUpdD_own] at h
    rw [resUpd_own]
    cases dst with
    | none => cases h
    | some t =>
      simp only at h ⊢
      obtain ⟨hf, h⟩ := cond_some.1 h
      injection h with h; subst h
      exact ⟨⟨.own t, none, [(t, .arr e (ds.getD 0 .no).toList)]⟩, by rw [hf]; rfl, hu⟩
theorem resUpd_vals {rs : List RM} (hv : allValR rs = true) (dst : Option Nat) (ds : List D) : ∃ v, (∀ st, resUpd st rs dst ds = some ⟨v, none, []⟩) ∧ refsOf v = [] := by
  cases dst with
  | none =>
    cases rs with
    | nil => exact ⟨.gone, fun _ => rfl, rfl⟩
    | cons r rs =>
      obtain ⟨svs, h1, _, _⟩ := resSV_vals (r :: rs) 0 0 ds hv
      exact ⟨.gone, fun _ => by simp only [resUpd, h1, opt_val, hv, cond_true], rfl⟩
  | some t =>
    cases rs with
    | nil => exact ⟨.tup [], fun _ => rfl, rfl⟩
    | cons r rs =>
      cases rs with
      | nil =>
        cases r with
        | val k => exact ⟨.val k (canon k (ds.getD 0 .no)), fun _ => rfl, rfl⟩
        | any => exact ⟨.gone, fun _ => rfl, rfl⟩
        | own e => cases hv
        | mp _ => cases hv
      | cons r2 rs =>
        obtain ⟨svs, h1, h2, _⟩ := resSV_vals (r :: r2 :: rs) (500000 + 16 * t) 0 ds hv
        exact ⟨.tup svs, fun _ => by simp only [resUpd, h1, opt_val, freshAll, cond_true], h2⟩

end

section
variable {E : Env} {draw : Bool}
def isCall : Out → Bool
  | .call .. => true
  | .hcall .. => true
  | _ => false
theorem call_out {st : St} {ops : List Oper} {L : List (Nat × Bool)} {o : Oper} {out : Out} (h : opO E draw st ops L o = some out) (hi : isCall out = true) :
    ∃ c, o.op = .call c ∧ ((∃ f sg, c.callee = .value (.func f) ∧ lk f E.sigs = some sg ∧ cond (allValP sg.params)
      (opt (argsO st ops L (flatR sg.results) sg.params c.args.toList) fun ds => some (Out.call f ds sg.results))
      (cond (!draw || simpleH sg) (opt (hargsO E st ops L 0 sg.params c.args.toList) fun x => some (Out.hcall f x.1 sg (sndL x.2.1) x.2.2)) none) = some out) ∨ ∃ t, c.callee = .value (.tmp t) ∧ cloO E draw st ops L t c.args.toList = some out) := by
  have hcall : ∀ c, callO E draw st ops L o.dst c = some out → ((∃ f sg, c.callee = .value (.func f) ∧ lk f E.sigs = some sg ∧ cond (allValP sg.params)
      (opt (argsO st ops L (flatR sg.results) sg.params c.args.toList) fun ds => some (Out.call f ds sg.results))
      (cond (!draw || simpleH sg) (opt (hargsO E st ops L 0 sg.params c.args.toList) fun x => some (Out.hcall f x.1 sg (sndL x.2.1) x.2.2)) none) = some out) ∨ ∃ t, c.callee = .value (.tmp t) ∧ cloO E draw st ops L t c.args.toList = some out) := by
    intro c h
    unfold callO at h
    split at h
    · rename_i g hg
      replace h := opt_some.1 h
      obtain ⟨sg, hsg, h⟩ := h
      exact .inl ⟨g, sg, hg, hsg, h⟩
    · exfalso
      split at h
      · unfold lenO at h
        replace h := opt_some.1 h
        obtain ⟨_, _, h⟩ := h
        replace h := opt_some.1 h
        obtain ⟨_, _, h⟩ := h
        split at h
        · (cases h <;> cases hi)
        · (cases h <;> cases hi)
        · (cases h <;> cases hi)
        · split at h <;> (cases h <;> cases hi)
        · (cases h <;> cases hi)
      · (cases h <;> cases hi)
    · exfalso
      split at h
      · unfold appendO at h
        replace h := opt_some.1 h
        obtain ⟨ti, _, h⟩ := h
        replace h := opt_some.1 h
        obtain ⟨xi, _, h⟩ := h
        replace h := opt_some.1 h
        obtain ⟨s1, _, h⟩ := h
        replace h := opt_some.1 h
        obtain ⟨s2, _, h⟩ := h
        split at h
        · replace h := opt_some.1 h
          obtain ⟨ei, _, h⟩ := h
          replace h := cond_some.1 h
          replace h := h.2
          replace h := opt_some.1 h
          obtain ⟨ds, _, h⟩ := h
          have hw : ∀ {dst : Option Nat} {ob : Obj} {vv : Nat → SV} {c : Bool}, withObj st dst ob vv c = some out → False := by
            intro dst ob vv c h
            unfold withObj at h
            split at h
            · have h := (cond_some.1 h).2; cases h <;> cases hi
            · (cases h <;> cases hi)
          split at h
          · exact hw h
          · split at h
            · revert h
              generalize Nat.beq _ _ = bb
              intro h
              cases bb with
              | true => (cases h <;> cases hi)
              | false =>
                simp only [cond_false] at h
                split at h
                · replace h := cond_some.1 h
                  replace h := h.2
                  (cases h <;> cases hi)
                · (cases h <;> cases hi)
            · split at h
              · replace h := cond_some.1 h
                replace h := h.2
                (cases h <;> cases hi)
              · (cases h <;> cases hi)
          · (cases h <;> cases hi)
        · (cases h <;> cases hi)
      · (cases h <;> cases hi)
    all_goals first | (cases h <;> cases hi; done) | exact .inr ⟨_, ‹_›, h⟩ | (exfalso; split at h <;> first | (obtain ⟨_, _, _, _, _, _, _, _, _, _, _, _, _, _, _, _, h⟩ := copyO_inv h; (cases h <;> cases hi); done) | (cases h <;> cases hi; done)) | (
      exfalso
      unfold mmO at h
      split at h
      · (cases h <;> cases hi)
      · replace h := opt_some.1 h
        obtain ⟨_, _, h⟩ := h
        split at h
        · replace h := opt_some.1 h
          obtain ⟨_, _, h⟩ := h
          (cases h <;> cases hi)
        · (cases h <;> cases hi))
  cases hop : o.op with
  | call c =>
    unfold opO at h
    rw [hop] at h
    exact ⟨c, rfl, hcall c h⟩
  | binOp op t x y yt =>
    exfalso
    unfold opO at h
    rw [hop] at h
    simp only at h
    replace h := opt_some.1 h
    obtain ⟨s1, _, h⟩ := h
    replace h := opt_some.1 h
    obtain ⟨s2, _, h⟩ := h
    unfold binO at h
    split at h
    · revert h
      generalize (isShift op) = b1
      intro h
      cases b1 with
      | true => simp only [cond_true, shiftOp] at h; cases op <;> (cases h <;> cases hi)
      | false => replace h := (cond_some.1 h).2; unfold intOp at h; cases op <;> (cases h <;> cases hi)
    · unfold strOp at h; cases op <;> (cases h <;> cases hi)
    · split at h
      · replace h := (cond_some.1 h).2; unfold boolOp at h; cases op <;> (cases h <;> cases hi)
      · (cases h <;> cases hi)
    · split at h
      · replace h := (cond_some.1 h).2; unfold aggOp at h; cases op <;> (cases h <;> cases hi)
      · (cases h <;> cases hi)
    · (cases h <;> cases hi)
  | pick x y z =>
    exfalso
    unfold opO at h
    rw [hop] at h
    simp only [pickO] at h
    replace h := opt_some.1 h
    obtain ⟨s1, _, h⟩ := h
    replace h := opt_some.1 h
    obtain ⟨s2, _, h⟩ := h
    split at h
    · split at h
      · replace h := (cond_some.1 h).2
        split at h
        · revert h
          generalize (sameTmp _ y) = b1
          generalize (sameTmp _ z) = b2
          intro h
          cases b1 <;> cases b2 <;> (cases h <;> cases hi)
        · (cases h <;> cases hi)
      · (cases h <;> cases hi)
    · (cases h <;> cases hi)
  | makeMap t r =>
    exfalso
    unfold opO at h
    rw [hop] at h
    cases r with
    | some _ => cases h
    | none =>
      simp only [makeMapO] at h
      obtain ⟨ti, _, h⟩ := opt_some.1 h
      split at h
      · obtain ⟨ki, _, h⟩ := opt_some.1 h
        obtain ⟨ei, _, h⟩ := opt_some.1 h
        have h := (cond_some.1 h).2
        unfold withObj at h
        split at h
        · have h := (cond_some.1 h).2
          injection h with h; subst h; cases hi
        · cases h
      · cases h
  | lookup t m x ok =>
    exfalso
    unfold opO at h
    rw [hop] at h
    simp only [lookupO] at h
    obtain ⟨ti, _, h⟩ := opt_some.1 h
    split at h
    · obtain ⟨ki, _, h⟩ := opt_some.1 h
      obtain ⟨ei, _, h⟩ := opt_some.1 h
      obtain ⟨sm, _, h⟩ := opt_some.1 h
      obtain ⟨sx, _, h⟩ := opt_some.1 h
      obtain ⟨d, _, h⟩ := opt_some.1 h
      split at h
      · split at h
        · have h := (cond_some.1 h).2
          injection h with h; subst h; cases hi
        · cases h
      · cases h
    · cases h
  | mapUpdate t m x y =>
    exfalso
    unfold opO at h
    rw [hop] at h
    simp only [mapUpdateO] at h
    obtain ⟨ti, _, h⟩ := opt_some.1 h
    split at h
    · obtain ⟨ki, _, h⟩ := opt_some.1 h
      obtain ⟨ei, _, h⟩ := opt_some.1 h
      obtain ⟨sm, _, h⟩ := opt_some.1 h
      obtain ⟨sx, _, h⟩ := opt_some.1 h
      obtain ⟨d, _, h⟩ := opt_some.1 h
      obtain ⟨sy, _, h⟩ := opt_some.1 h
      obtain ⟨dv, _, h⟩ := opt_some.1 h
      split at h
      · split at h
        · have h := (cond_some.1 h).2
          injection h with h; subst h; cases hi
        · cases h
      · cases h
    · cases h
  | insert t m x y =>
    exfalso
    unfold opO at h
    rw [hop] at h
    simp only [mapUpdateO] at h
    obtain ⟨ti, _, h⟩ := opt_some.1 h
    split at h
    · obtain ⟨ki, _, h⟩ := opt_some.1 h
      obtain ⟨ei, _, h⟩ := opt_some.1 h
      obtain ⟨sm, _, h⟩ := opt_some.1 h
      obtain ⟨sx, _, h⟩ := opt_some.1 h
      obtain ⟨d, _, h⟩ := opt_some.1 h
      obtain ⟨sy, _, h⟩ := opt_some.1 h
      obtain ⟨dv, _, h⟩ := opt_some.1 h
      split at h
      · split at h
        · have h := (cond_some.1 h).2
          injection h with h; subst h; cases hi
        · cases h
      · cases h
    · cases h
  | makeFunc fn fs cs =>
    exfalso
    cases fn with
    | func g =>
      unfold opO at h
      rw [hop] at h
      obtain ⟨_, _, _, _, _, _, _, _, h⟩ := mkf_out h
      subst h; cases hi
    | _ =>
      unfold opO at h
      rw [hop] at h
      cases h
  | _ =>
    exfalso
    unfold opO at h
    rw [hop] at h
    try simp only [moveO, allocO, boxO, buildO, buildSliceO, loadO, storeO, unO, convertO, makeSliceO, sliceO, fieldAddrO, fieldO, indexAddrO, indexO, withObj, Bool.cond_eq_ite] at h
    repeat' (first
      | (cases h <;> cases hi; done)
      | (rw [opt_some] at h; obtain ⟨_, _, h⟩ := h)
      | (split at h))

theorem allValP_args {st : St} {ops : List Oper} {L : List (Nat × Bool)} {b : Bool} : ∀ {ps : List PM} {xs : List Operand} {ds : List D}, argsO st ops L b ps xs = some ds → allValP ps = true := by
  intro ps
  induction ps with
  | nil => intro xs ds _; rfl
  | cons p ps ih =>
    intro xs ds h
    cases p with
    | val k =>
      cases xs with
      | nil => cases h
      | cons x xs =>
        obtain ⟨s, _, h⟩ := opt_some.1 h
        obtain ⟨d, _, h⟩ := opt_some.1 h
        obtain ⟨r, hr, h⟩ := opt_some.1 h
        exact ih hr
    | _ => cases xs <;> cases h
theorem call_inv {st : St} {ops : List Oper} {L : List (Nat × Bool)} {o : Oper} {f : Nat} {ds : List D} {rs : List RM} (h : opO E draw st ops L o = some (.call f ds rs)) :
    ∃ c sg, o.op = .call c ∧ lk f E.sigs = some sg ∧ rs = sg.results ∧ ((c.callee = .value (.func f) ∧ argsO st ops L (flatR sg.results) sg.params c.args.toList = some ds) ∨
      ∃ t id, c.callee = .value (.tmp t) ∧ ev st ops L (.tmp t) = some (.clo f id) ∧ flatR sg.results = true ∧ argsC E st ops L id sg.params c.args.toList = some ds) := by
  obtain ⟨c, h1, ⟨g, sg, h2, h3, h4⟩ | ⟨t, h2, h4⟩⟩ := call_out h rfl
  · rcases callF_out h4 with ⟨ds', h5, h6⟩ | ⟨_, _, _, h6⟩
    · injection h6 with e1 e2 e3; subst e1 e2 e3
      exact ⟨c, sg, h1, h3, rfl, .inl ⟨h2, h5⟩⟩
    · cases h6
  · obtain ⟨_, g, id, sg, ds', h5, h6, h7, h8, h9⟩ := clo_out h4
    injection h9 with e1 e2 e3; subst e1 e2 e3
    exact ⟨c, sg, h1, h6, rfl, .inr ⟨t, id, h2, h5, h7, h8⟩⟩
theorem hcall_inv2 {st : St} {ops : List Oper} {L : List (Nat × Bool)} {o : Oper} {f : Nat} {ds : List D} {sg : Sig} {rows : List Nat} {boxes : List (Nat × TypeId × List CK)} (h : opO E draw st ops L o = some (.hcall f ds sg rows boxes)) :
    (draw = false ∨ simpleH sg = true) ∧ ∃ c, o.op = .call c ∧ c.callee = .value (.func f) ∧ lk f E.sigs = some sg ∧ ∃ rs, hargsO E st ops L 0 sg.params c.args.toList = some (ds, rs, boxes) ∧ rows = sndL rs := by
  obtain ⟨c, h1, ⟨g, sg', h2, h3, h4⟩ | ⟨t, h2, h4⟩⟩ := call_out h rfl
  · rcases callF_out h4 with ⟨_, _, h6⟩ | ⟨hd, x, h5, h6⟩
    · cases h6
    · injection h6 with e1 e2 e3 e4 e5; subst e1 e2 e3 e4 e5
      exact ⟨hd, c, h1, h2, h3, x.2.1, h5, rfl⟩
  · obtain ⟨_, g, id, sg, ds', h5, h6, h7, h8, h9⟩ := clo_out h4
    cases h9
theorem hcall_inv {st : St} {ops : List Oper} {L : List (Nat × Bool)} {o : Oper} {f : Nat} {ds : List D} {sg : Sig} {rows : List Nat} {boxes : List (Nat × TypeId × List CK)} (h : opO E draw st ops L o = some (.hcall f ds sg rows boxes)) :
    ∃ c, o.op = .call c ∧ c.callee = .value (.func f) ∧ lk f E.sigs = some sg ∧ ∃ rs, hargsO E st ops L 0 sg.params c.args.toList = some (ds, rs, boxes) ∧ rows = sndL rs := (hcall_inv2 h).2
/-- What such a call names: one box, there, among its arguments. -/
theorem hargs_one {st : St} {ops : List Oper} {L : List (Nat × Bool)} : ∀ (ps : List PM) (p : Nat) (xs : List Operand) (ds : List D) (rs : List (Nat × Nat)) (boxes : List (Nat × TypeId × List CK)), hargsO E st ops L p ps xs = some (ds, rs, boxes) → onePlain ps = true →
    ∃ i t cs, boxes = [(i, t, cs)] ∧ plainC cs = true ∧ rs = [] ∧ i ∈ bptrsAt st (opdsUses xs) ∧ ∃ c, st.objs i = some (.box t c) := by
  have hval : ∀ (ps : List PM) (p : Nat) (xs : List Operand) (ds : List D) (rs : List (Nat × Nat)) (boxes : List (Nat × TypeId × List CK)), hargsO E st ops L p ps xs = some (ds, rs, boxes) → allValP ps = true → rs = [] ∧ boxes = [] := by
    intro ps
    induction ps with
    | nil =>
      intro p xs ds rs boxes h _
      cases xs with
      | nil => injection h with h; injection h with _ h; injection h with h1 h2; exact ⟨h1.symm, h2.symm⟩
      | cons _ _ => cases h
    | cons q ps ih =>
      intro p xs ds rs boxes h hv
      cases xs with
      | nil => cases q <;> cases h
      | cons x xs =>
        cases q with
        | val k =>
          simp only [hargsO] at h
          obtain ⟨s, _, h⟩ := opt_some.1 h
          obtain ⟨d, _, h⟩ := opt_some.1 h
          obtain ⟨y, hy, h⟩ := opt_some.1 h
          obtain ⟨y1, y2, y3⟩ := y
          injection h with h; injection h with _ h; injection h with h1 h2
          simp only at h1 h2
          obtain ⟨e1, e2⟩ := ih (p + 1) xs _ _ _ hy hv
          exact ⟨by rw [← h1, e1], by rw [← h2, e2]⟩
        | own e => cases hv
        | ref k => cases hv
        | box t cs => cases hv
  have hrows : ∀ (id p : Nat) (cs : List CK) (c : Nat) (ss : List SV) (y : List D × List (Nat × Nat)), plainC cs = true → cellArgs E st id p c cs ss = some y → y.2 = [] := by
    intro id p cs
    induction cs with
    | nil =>
      intro c ss y _ h
      cases ss with
      | nil => injection h with h; subst h; rfl
      | cons _ _ => cases h
    | cons k r ih =>
      intro c ss y hp h
      cases ss with
      | nil => cases k <;> cases h
      | cons s ss =>
        cases k with
        | val k =>
          simp only [cellArgs] at h
          obtain ⟨d, _, h⟩ := opt_some.1 h
          obtain ⟨z, hz, h⟩ := opt_some.1 h
          injection h with h; subst h
          exact ih (c + 1) ss z hp hz
        | row e => cases hp
        | lent => cases hp
        | self =>
          simp only [cellArgs] at h
          split at h
          · obtain ⟨_, h⟩ := cond_some.1 h
            obtain ⟨z, hz, h⟩ := opt_some.1 h
            injection h with h; subst h
            exact ih (c + 1) ss z hp hz
          · cases h
  have hmem : ∀ (x : Operand) (xs : List Operand) (i : Nat), i ∈ bptrsAt st (opdsUses xs) → i ∈ bptrsAt st (opdsUses (x :: xs)) := by
    intro x xs i hi
    cases x with
    | tmp t =>
      simp only [opdsUses, opdUses, List.singleton_append, bptrsAt]
      split
      · exact List.mem_cons_of_mem _ hi
      · exact hi
    | _ => exact hi
  intro ps
  induction ps with
  | nil => intro p xs ds rs boxes _ h; cases h
  | cons q ps ih =>
    intro p xs ds rs boxes h hv
    cases xs with
    | nil => cases q <;> cases h
    | cons x xs =>
      cases q with
      | val k =>
        simp only [hargsO] at h
        obtain ⟨s, _, h⟩ := opt_some.1 h
        obtain ⟨d, _, h⟩ := opt_some.1 h
        obtain ⟨y, hy, h⟩ := opt_some.1 h
        obtain ⟨y1, y2, y3⟩ := y
        injection h with h; injection h with _ h; injection h with h1 h2
        simp only at h1 h2
        obtain ⟨i, t, cs, e1, e2, e3, e4, e5⟩ := ih (p + 1) xs _ _ _ hy hv
        exact ⟨i, t, cs, by rw [← h2, e1], e2, by rw [← h1, e3], hmem x xs i e4, e5⟩
      | own e => cases hv
      | ref k => cases hv
      | box t cs =>
        have hv : (plainC cs && allValP ps) = true := hv
        simp only [Bool.and_eq_true] at hv
        simp only [hargsO] at h
        obtain ⟨s, hs, h⟩ := opt_some.1 h
        split at h
        · rename_i i u off k
          obtain ⟨_, h⟩ := cond_some.1 h
          split at h
          · rename_i u' c hob
            obtain ⟨hu, h⟩ := cond_some.1 h
            obtain ⟨ti, _, h⟩ := opt_some.1 h
            obtain ⟨y, hy, h⟩ := opt_some.1 h
            obtain ⟨z, hz, h⟩ := opt_some.1 h
            obtain ⟨z1, z2, z3⟩ := z
            injection h with h; injection h with _ h; injection h with h1 h2
            simp only at h1 h2
            obtain ⟨e1, e2⟩ := hval ps (p + 1) xs _ _ _ hz hv.2
            have e3 := hrows i p cs 0 _ y hv.1 hy
            refine ⟨i, t, cs, by rw [← h2, e2], hv.1, by rw [← h1, e1, e3]; rfl, ?_, c, ?_⟩
            · obtain ⟨t', rfl, hts⟩ := ev_refs (i := i) hs (by simp [refsOf, refs0])
              simp only [opdsUses, opdUses, List.singleton_append, bptrsAt]
              have : st.slots t' = some (.bptr i u off k) := hts
              rw [this]
              exact List.mem_cons_self
            · rw [hob, beq_iff.1 hu]
          · cases h
        · simp only [plain_lent hv.1, Bool.false_and, cond_false] at h
          split at h <;> cases h
        · cases h

end
end Go.Proofs.YtcmeincdmphaoaaDoor.DS

namespace Go.Proofs.YtcmeincdmphaoaaDoor.DS

section
variable {E : Env} {callk : Nat → List D → R} {st st' : St} {ops : List Oper}

structure UFact (st : St) (o : Oper) (p : Option Nat × Upd) : Prop where
  dst : p.1 = o.dst
  obs : p.2.obs = []
  vrefs : ∀ i, i ∈ refsOf p.2.v → (∃ ob, st.objs i = some ob) ∨ ∃ x, p.2.ob = some (i, x)
  vdeep : ∀ i, i ∈ refsOf p.2.v → Dp st o i ∨ ∃ x, p.2.ob = some (i, x)
  ob : ∀ id ob scr, p.2.ob = some (id, ob, scr) → ObFact st o id ob scr p.2.v

theorem gNew_out {dst : Option Nat} {out : Out} {u : Upd} (h : gNew st dst out = some u) : ∃ id e es, out = .ob true id (.arr e es) false (.own id) ∧ dst = some id ∧ st.objs id = none ∧ u = ⟨.val (.slice e) (.list es), none, []⟩ := by
  unfold gNew at h
  split at h
  · rename_i c id e es id'
    obtain ⟨h1, h⟩ := cond_some.1 h
    injection h with h; subst h
    simp only [Bool.and_eq_true] at h1
    obtain ⟨rfl, h2, h3, h4⟩ := h1
    have h2 := beq_iff.1 h2
    subst h2
    cases dst with
    | none => cases h3
    | some d =>
      have h3 := beq_iff.1 (show Nat.beq d id = true from h3)
      subst h3
      refine ⟨_, e, es, rfl, rfl, ?_, rfl⟩
      unfold fresh at h4
      cases hx : st.objs d with
      | none => rfl
      | some o => rw [hx] at h4; cases h4
  · cases h
theorem gNew_congr {dst : Option Nat} (hf : ∀ d, dst = some d → fresh st' d = fresh st d) (out : Out) : gNew st' dst out = gNew st dst out := by
  unfold gNew
  split
  · rename_i c id e es id'
    cases dst with
    | none => rfl
    | some d =>
      simp only [isDst]
      cases hb : Nat.beq d id with
      | false => rfl
      | true =>
        have := beq_iff.1 hb
        subst this
        rw [hf d rfl]
  · rfl
theorem evalU_fact (hwf : WF st) {i : Nat} {o : Oper} (hi : nthOp ops i = some o) (hall : (opEff o).all = false) {p : Option Nat × Upd} (h : evalU E callk ops true i st = some p) : UFact st o p := by
  unfold evalU at h
  rw [hi] at h
  simp only at h
  have hres : ∀ {rs r}, allValR rs = true → (opt (resUpd st rs o.dst r) fun u => some (o.dst, u)) = some p → UFact st o p := by
    intro rs r h1 h2
    obtain ⟨v, hv, hr⟩ := resUpd_vals h1 o.dst r
    rw [hv st] at h2
    injection h2 with h2; subst h2
    exact ⟨rfl, rfl, (fun i hi => by rw [show refsOf (o.dst, (⟨v, none, []⟩ : Upd)).2.v = [] from hr] at hi; cases hi), (fun i hi => by rw [show refsOf (o.dst, (⟨v, none, []⟩ : Upd)).2.v = [] from hr] at hi; cases hi), fun _ _ _ h => by cases h⟩
  cases hc : chainOf ops i with
  | nil =>
    rw [hc] at h
    simp only at h
    cases ho : opO E true st ops [] o with
    | none => rw [ho] at h; cases h
    | some out =>
      rw [ho] at h
      cases out with
      | sv c v =>
        replace h := (cond_some.1 h).2
        injection h with h; subst h
        exact ⟨rfl, rfl, fun i hi => .inl (sv_there hwf ho i hi), fun i hi => .inl (sv_deep ho i hi), fun _ _ _ h => by cases h⟩
      | ob c id ob scr v =>
        cases hlit : isLit E.sigs ops o with
        | true =>
          rw [hlit] at h
          obtain ⟨u, hu, h⟩ := opt_some.1 h
          injection h with h; subst h
          obtain ⟨id', e, es, _, _, _, rfl⟩ := gNew_out hu
          exact ⟨rfl, rfl, fun i hi => (by cases hi), fun i hi => (by cases hi), fun _ _ _ h => by cases h⟩
        | false =>
        rw [hlit] at h
        replace h := (cond_some.1 h).2
        injection h with h; subst h
        have hf := ob_fact hwf hall ho
        exact ⟨rfl, rfl, fun i hi => .inr ⟨(ob, scr), by have := hf.vrefs i hi; subst this; rfl⟩, fun i hi => .inr ⟨(ob, scr), by have := hf.vrefs i hi; subst this; rfl⟩, fun _ _ _ h => by injection h with h; injection h with h1 h; injection h with h2 h3; subst h1 h2 h3; exact hf⟩
      | call f ds rs =>
        replace h := cond_some.1 h
        obtain ⟨hv, h⟩ := h
        replace h := opt_some.1 h
        obtain ⟨r, _, h⟩ := h
        cases hv2 : allValR rs with
        | true =>
          simp only [resUpdD, own1_val hv2, cond_false] at h
          exact hres hv2 h
        | false =>
          rw [hv2] at hv
          obtain ⟨e, rfl⟩ := own1_inv (by simpa using hv)
          rw [resUpdD_own] at h
          cases hd : o.dst with
          | none => rw [hd] at h; cases h
          | some t =>
            rw [hd] at h
            simp only at h
            obtain ⟨u, hu, h⟩ := opt_some.1 h
            injection h with h; subst h
            obtain ⟨hf, hu⟩ := cond_some.1 hu
            injection hu with hu; subst hu
            have hf' : st.objs t = none := by
              unfold fresh at hf
              cases hx : st.objs t with
              | none => rfl
              | some _ => rw [hx] at hf; cases hf
            refine ⟨hd.symm, rfl, fun i hi => ?_, fun i hi => ?_, fun id ob scr e => ?_⟩
            · exact .inr ⟨(.arr _ _, false), by simp [refsOf, refs0] at hi; subst hi; rfl⟩
            · exact .inr ⟨(.arr _ _, false), by simp [refsOf, refs0] at hi; subst hi; rfl⟩
            · injection e with e; injection e with e1 e; injection e with e2 e3
              subst e1 e2 e3
              exact ⟨.inl rfl, (fun i hi => by cases hi), (fun i hi => by cases hi), (fun i hi => by simpa [refsOf, refs0] using hi), .inl ⟨hf', hd⟩⟩
      | hcall f ds sg rows boxes =>
        simp only [cond_true] at h
        obtain ⟨r, _, h⟩ := opt_some.1 h
        obtain ⟨u, hu, h⟩ := opt_some.1 h
        injection h with h; subst h
        obtain ⟨hd, c, hop, hcal, _, rs, hargs, _⟩ := hcall_inv2 ho
        have hsi : simpleH sg = true := by rcases hd with hd | hd; cases hd; exact hd
        unfold simpleH at hsi
        simp only [Bool.and_eq_true] at hsi
        obtain ⟨j, t, cs, rfl, hcs, _, hj, ob0, hob0⟩ := hargs_one _ _ _ _ _ _ hargs hsi.1
        unfold hUpdD at hu
        obtain ⟨u0, hu0, hu⟩ := opt_some.1 hu
        injection hu with hu; subst hu
        obtain ⟨v, hv, hr⟩ := resUpd_vals hsi.2.1 o.dst r
        rw [hv st] at hu0
        injection hu0 with hu0; subst hu0
        refine ⟨rfl, rfl, (fun i hi => by rw [show refsOf v = [] from hr] at hi; cases hi), (fun i hi => by rw [show refsOf v = [] from hr] at hi; cases hi), fun id ob scr e => ?_⟩
        injection e with e; injection e with e1 e; injection e with e2 e3
        subst e1 e2 e3
        refine ⟨.inl rfl, ?_, ?_, (fun i hi => by rw [show refsOf v = [] from hr] at hi; cases hi), .inr ⟨?_, _, hob0⟩⟩
        rotate_left
        · intro i hi
          refine .inl ?_
          have key : ∀ (cs : List CK) (c : Nat) (d : D), plainC cs = true → ∀ i, i ∈ cellX (mkCells j cs c d) → i = j := by
            intro cs
            induction cs with
            | nil => intro c d _ i hi; cases hi
            | cons k r ih =>
              intro c d hp i hi
              cases k with
              | val k => exact ih (c + 1) d hp i (by simpa [mkCells, cellX, xrefs, refsOf, refs0] using hi)
              | row e => cases hp
              | lent => cases hp
              | self =>
                simp only [mkCells, cellX, xrefs, refsOf, refs0, List.mem_append, List.mem_singleton] at hi
                rcases hi with hi | hi
                · exact hi
                · exact ih (c + 1) d hp i hi
          exact key cs 0 _ hcs i hi
        rotate_left
        · intro i hi
          refine .inl ?_
          have key : ∀ (cs : List CK) (c : Nat) (d : D), plainC cs = true → ∀ i, i ∈ refsL (mkCells j cs c d) → i = j := by
            intro cs
            induction cs with
            | nil => intro c d _ i hi; cases hi
            | cons k r ih =>
              intro c d hp i hi
              cases k with
              | val k => exact ih (c + 1) d hp i (by simpa [mkCells, refsL, refs0] using hi)
              | row e => cases hp
              | lent => cases hp
              | self =>
                simp only [mkCells, refsL, refs0, List.mem_append, List.mem_singleton] at hi
                rcases hi with hi | hi
                · exact hi
                · exact ih (c + 1) d hp i hi
          exact key cs 0 _ hcs i hi
        · unfold wrAt
          rw [hop]
          simp only [hcal]
          exact hj
  | cons q L =>
    rw [hc] at h
    simp only at h
    replace h := (cond_some.1 h).2
    cases ho : opO E true st ops (q :: L) o with
    | none => rw [ho] at h; cases h
    | some out =>
      rw [ho] at h
      cases out with
      | sv c v =>
        replace h := (cond_some.1 h).2
        injection h with h; subst h
        exact ⟨rfl, rfl, fun i hi => .inl (sv_there hwf ho i hi), fun i hi => .inl (sv_deep ho i hi), fun _ _ _ h => by cases h⟩
      | ob c id ob scr v =>
        obtain ⟨u, hu, h⟩ := opt_some.1 h
        injection h with h; subst h
        obtain ⟨id', e, es, _, _, _, rfl⟩ := gNew_out hu
        exact ⟨rfl, rfl, fun i hi => (by cases hi), fun i hi => (by cases hi), fun _ _ _ h => by cases h⟩
      | call f ds rs =>
        replace h := cond_some.1 h
        obtain ⟨hv, h⟩ := h
        replace h := opt_some.1 h
        obtain ⟨r, _, h⟩ := h
        exact hres hv h
      | hcall _ _ _ _ _ => cases h

theorem guardB_congr : ∀ (L : List (Nat × Bool)), (∀ p ∈ L, st'.slots p.1 = st.slots p.1) → guardB st' L = guardB st L := by
  intro L
  induction L with
  | nil => intro _; rfl
  | cons p r ih =>
    intro h
    obtain ⟨t, w⟩ := p
    have h1 := h (t, w) List.mem_cons_self
    have h2 := ih (fun q hq => h q (List.mem_cons_of_mem _ hq))
    cases r with
    | nil => simp only [guardB, h1]
    | cons q r => simp only [guardB] at h2 ⊢; simp only [h1, h2]
theorem guardsThere_congr : ∀ (L : List (Nat × Bool)), (∀ p ∈ L, st'.slots p.1 = st.slots p.1) → guardsThere st' L = guardsThere st L := by
  intro L
  induction L with
  | nil => intro _; rfl
  | cons p r ih =>
    intro h
    obtain ⟨t, w⟩ := p
    have h1 := h (t, w) List.mem_cons_self
    have h2 := ih (fun q hq => h q (List.mem_cons_of_mem _ hq))
    simp only [guardsThere, h1, h2]

theorem evalU_congr {i : Nat} {o : Oper} (hi : nthOp ops i = some o) (hall : (opEff o).all = false) (hs : ∀ t, t ∈ usesOf ops i → st'.slots t = st.slots t) (hf : ∀ d, o.dst = some d → fresh st' d = fresh st d)
    (ho : (opEff o).reads = true ∨ (opEff o).writes = true → ∀ t s, t ∈ usesOf ops i → st.slots t = some s → (isLoad o.op = false → ∀ i, i ∈ refsOf s → st'.objs i = st.objs i) ∧ (isLoad o.op = true → LoadSame st st' s)) :
    evalU E callk ops true i st' = evalU E callk ops true i st := by
  have hu : ∀ t, t ∈ opdsUses o.op.operands.toList → t ∈ usesOf ops i := by
    intro t ht; unfold usesOf; rw [hi]; exact List.mem_append_left _ ht
  have hg : ∀ p ∈ chainOf ops i, st'.slots p.1 = st.slots p.1 := by
    intro p hp
    refine hs p.1 ?_
    unfold usesOf; rw [hi]; exact List.mem_append_right _ (List.mem_map_of_mem hp)
  have hO : ∀ L, opO E true st' ops L o = opO E true st ops L o := fun L => opO_congr o hall (fun t ht => hs t (hu t ht)) hf (fun hrw t s ht => ho hrw t s (hu t ht))
  unfold evalU
  rw [hi]
  simp only
  cases hc : chainOf ops i with
  | nil =>
    simp only [hO]
    cases hoo : opO E true st ops [] o with
    | none => rfl
    | some out =>
      cases out with
      | sv c v => rfl
      | ob c id ob scr v => simp only [gNew_congr hf]
      | hcall f ds sg rows boxes =>
        simp only [cond_true]
        obtain ⟨hd, _⟩ := hcall_inv2 hoo
        have hsi : simpleH sg = true := by rcases hd with hd | hd; cases hd; exact hd
        unfold simpleH at hsi
        simp only [Bool.and_eq_true] at hsi
        have : ∀ r, hUpdD st' sg o.dst boxes r = hUpdD st sg o.dst boxes r := fun r => by
          obtain ⟨v, hv, _⟩ := resUpd_vals hsi.2.1 o.dst r
          unfold hUpdD
          split
          · rw [hv st', hv st]
          · rfl
        simp only [this]
      | call f ds rs =>
        simp only
        cases hv2 : allValR rs with
        | false =>
          cases ho1 : own1 true rs with
          | false => rfl
          | true =>
            obtain ⟨e, rfl⟩ := own1_inv ho1
            have : ∀ r, resUpdD true st' [.own e] o.dst r = resUpdD true st [.own e] o.dst r := fun r => by
              rw [resUpdD_own, resUpdD_own]
              cases hd : o.dst with
              | none => rfl
              | some t => simp only [hf t hd]
            simp only [this]
        | true =>
          have : ∀ r, resUpdD true st' rs o.dst r = resUpdD true st rs o.dst r := fun r => by
            obtain ⟨v, hv, _⟩ := resUpd_vals hv2 o.dst r
            simp only [resUpdD, own1_val hv2, cond_false]
            rw [hv st', hv st]
          simp only [this]
  | cons q L =>
    rw [hc] at hg
    simp only [hO, guardsThere_congr _ hg, guardB_congr _ hg]
    cases hoo : opO E true st ops (q :: L) o with
    | none => rfl
    | some out =>
      cases out with
      | sv c v => rfl
      | ob c id ob scr v => simp only [gNew_congr hf]
      | hcall _ _ _ _ _ => rfl
      | call f ds rs =>
        simp only
        cases hv2 : allValR rs with
        | false => rfl
        | true =>
          have : ∀ r, resUpd st' rs o.dst r = resUpd st rs o.dst r := fun r => by
            obtain ⟨v, hv, _⟩ := resUpd_vals hv2 o.dst r
            rw [hv st', hv st]
          simp only [this]

end
end Go.Proofs.YtcmeincdmphaoaaDoor.DS

namespace Go.Proofs.YtcmeincdmphaoaaDoor.DS

def HoldsL (a : Act) (L : List (Nat × Bool)) : Prop := ∀ p ∈ L, a.eval (.tmp p.1) = .bool p.2

theorem nthOp_get (ops : List Oper) : ∀ i, nthOp ops i = ops[i]? := by
  induction ops with
  | nil => intro i; simp [nthOp]
  | cons o r ih => intro i; cases i <;> simp [nthOp, ih]
theorem nthOp_lt {ops : List Oper} {i : Nat} {o : Oper} (h : nthOp ops i = some o) : i < ops.length := by
  rw [nthOp_get] at h; exact (List.getElem?_eq_some_iff.1 h).1
theorem nthOp_toList {ops : Array Oper} {i : Nat} : nthOp ops.toList i = ops[i]? := by
  rw [nthOp_get]; simp

theorem chainF_fuel (ops : List Oper) : ∀ n m j, j < n → j < m → chainF ops n j = chainF ops m j := by
  intro n
  induction n with
  | zero => intro m j h; omega
  | succ n ih =>
    intro m j h1 h2
    cases m with
    | zero => omega
    | succ m =>
      simp only [chainF]
      cases nthOp ops j with
      | none => rfl
      | some o =>
        simp only
        cases o.guard with
        | none => rfl
        | some g =>
          obtain ⟨k, w⟩ := g
          simp only
          cases hk : Nat.ble (k + 1) j with
          | false => rfl
          | true =>
            have hk' := Nat.le_of_ble_eq_true hk
            simp only [cond_true]
            cases nthOp ops k with
            | none => rfl
            | some ok =>
              simp only
              cases ok.dst with
              | none => rfl
              | some t => simp only; rw [ih m k (by omega) (by omega)]

theorem guards_spec {ops : List Oper} {draw : Bool} (h : guardsOk ops draw = true) {i : Nat} {o : Oper} (hi : nthOp ops i = some o) {j : Nat} {w : Bool} (hg : o.guard = some (j, w)) :
    ∃ oj t, nthOp ops j = some oj ∧ oj.dst = some t ∧ j < i ∧ chainOf ops i = (t, w) :: chainOf ops j ∧ (draw = true → j ∈ anyEdges o) := by
  have := allBelow_spec h i (nthOp_lt hi)
  rw [hi] at this
  simp only [hg, Bool.and_eq_true] at this
  obtain ⟨h1, h2, h3⟩ := this
  have hlt := Nat.le_of_ble_eq_true h1
  cases hj : nthOp ops j with
  | none => rw [hj] at h2; cases h2
  | some oj =>
    rw [hj] at h2
    simp only at h2
    obtain ⟨t, ht⟩ := Option.isSome_iff_exists.1 h2
    refine ⟨oj, t, rfl, ht, by omega, ?_, ?_⟩
    · unfold chainOf
      rw [show chainF ops (i + 1) i = (t, w) :: chainF ops i j by simp only [chainF, hi, hg, h1, cond_true, hj, ht]]
      rw [chainF_fuel ops i (j + 1) j (by omega) (by omega)]
    · intro hd
      rw [hd] at h3
      exact memN_iff.1 (by simpa using h3)
theorem chain_none {ops : List Oper} {i : Nat} {o : Oper} (hi : nthOp ops i = some o) (hg : o.guard = none) : chainOf ops i = [] := by
  simp only [chainOf, chainF, hi, hg]

theorem dstsOf_mem {ops : List Oper} {i : Nat} {o : Oper} {t : Nat} (hi : nthOp ops i = some o) (ht : o.dst = some t) : t ∈ dstsOf ops := by
  induction ops generalizing i with
  | nil => simp [nthOp] at hi
  | cons x r ih =>
    cases i with
    | zero => simp only [nthOp, Option.some.injEq] at hi; subst hi; simp [dstsOf, ht]
    | succ i =>
      have := ih hi
      simp only [dstsOf]
      cases x.dst <;> simp [this]
theorem dstIx_spec {ops : List Oper} (hn : nodupN (dstsOf ops) = true) {i : Nat} {o : Oper} {t : Nat} (hi : nthOp ops i = some o) (ht : o.dst = some t) : ∀ n, dstIx t ops n = some (n + i) := by
  induction ops generalizing i with
  | nil => simp [nthOp] at hi
  | cons x r ih =>
    intro n
    cases i with
    | zero => simp only [nthOp, Option.some.injEq] at hi; subst hi; simp [dstIx, ht, beq_self]
    | succ i =>
      have hm := dstsOf_mem (ops := r) hi ht
      cases hx : x.dst with
      | none =>
        simp only [dstsOf, hx] at hn
        simp only [dstIx, hx]
        rw [ih hn hi]; congr 1; omega
      | some d =>
        simp only [dstsOf, hx, nodupN] at hn
        cases hmem : memN d (dstsOf r) with
        | true => rw [hmem] at hn; cases hn
        | false =>
          rw [hmem] at hn
          have hne : t ≠ d := fun e => by subst e; rw [memN_iff.2 hm] at hmem; cases hmem
          simp only [dstIx, hx, beq_false.2 hne, cond_false]
          rw [ih hn hi]; congr 1; omega
theorem grdOf_spec {ops : List Oper} (hn : nodupN (dstsOf ops) = true) {i : Nat} {o : Oper} {t : Nat} (hi : nthOp ops i = some o) (ht : o.dst = some t) : grdOf ops t = chainOf ops i := by
  unfold grdOf; rw [dstIx_spec hn hi ht 0]; simp
theorem dst_unique {ops : List Oper} (hn : nodupN (dstsOf ops) = true) {i j : Nat} {o o' : Oper} {t : Nat} (hi : nthOp ops i = some o) (hj : nthOp ops j = some o') (ht : o.dst = some t) (ht' : o'.dst = some t) : i = j := by
  have h1 := dstIx_spec hn hi ht 0
  have h2 := dstIx_spec hn hj ht' 0
  rw [h1] at h2; injection h2; omega

theorem boolEqB_iff {a b : Bool} : boolEqB a b = true ↔ a = b := by cases a <;> cases b <;> decide
theorem inGrd_iff {p : Nat × Bool} {l : List (Nat × Bool)} : inGrd p l = true ↔ p ∈ l := by
  induction l with
  | nil => simp [inGrd]
  | cons q r ih =>
    simp only [inGrd, List.mem_cons]
    cases h : (Nat.beq p.1 q.1 && boolEqB p.2 q.2) with
    | true =>
      simp only [Bool.and_eq_true] at h
      simp [Prod.ext_iff, beq_iff.1 h.1, boolEqB_iff.1 h.2]
    | false =>
      have : p ≠ q := fun e => by subst e; simp [beq_self, boolEqB_iff.2 rfl] at h
      simp [ih, this]
theorem subGrd_iff {l m : List (Nat × Bool)} : subGrd l m = true ↔ ∀ p ∈ l, p ∈ m := by
  induction l with
  | nil => simp [subGrd]
  | cons q r ih =>
    simp only [subGrd, List.forall_mem_cons]
    cases h : inGrd q m with
    | true => simp [ih, inGrd_iff.1 h]
    | false =>
      have : q ∉ m := fun e => by rw [inGrd_iff.2 e] at h; cases h
      simp [this]
theorem dropGrd_mem {p q : Nat × Bool} {l : List (Nat × Bool)} (h : q ∈ l) (hne : q ≠ p) : q ∈ dropGrd p l := by
  induction l with
  | nil => cases h
  | cons x r ih =>
    simp only [dropGrd]
    cases hx : (Nat.beq p.1 x.1 && boolEqB p.2 x.2) with
    | true =>
      simp only [Bool.and_eq_true] at hx
      have hpx : p = x := Prod.ext (beq_iff.1 hx.1) (boolEqB_iff.1 hx.2)
      rcases List.mem_cons.1 h with h | h
      · exact absurd (h.trans hpx.symm) hne
      · exact ih h
    | false =>
      rcases List.mem_cons.1 h with h | h
      · subst h; exact List.mem_cons_self
      · exact List.mem_cons_of_mem _ (ih h)

theorem eval_put_same {a : Act} {t : Nat} {v : Value} (h : t < a.tmps.size) : (a.put (some t) v).eval (.tmp t) = v := by
  simp [Act.eval, Act.put, Array.getD_eq_getD_getElem?, Array.getElem?_setIfInBounds, h]
theorem eval_put_other {a : Act} {d : Option Nat} {v : Value} {t : Nat} (h : d ≠ some t) : (a.put d v).eval (.tmp t) = a.eval (.tmp t) :=
  Act.eval_put fun d' hd => by subst hd; intro e; injection e with e; subst e; exact h rfl
theorem size_put {a : Act} {d : Option Nat} {v : Value} : (a.put d v).tmps.size = a.tmps.size := by cases d <;> simp [Act.put]
theorem defers_put {a : Act} {d : Option Nat} {v : Value} : (a.put d v).defers = a.defers := by cases d <;> rfl

/-- How state and memory stand while a region runs: done tells the operations behind us. -/
structure RI (E : Env) (X : Nat → Prop) (w0 : World) (Mx : Mem) (pv : Nat → Option Value) (ops : List Oper) (done : Nat → Prop) (st : St) (a : Act) (w : World) : Prop where
  ex : ∃ ι M, HRel E.tt X w0 Mx ι M st.objs w ∧ ∀ t s, st.slots t = some s → (∀ i o, done i → nthOp ops i = some o → o.dst = some t → HoldsL a (chainOf ops i)) → SVRel E.tt ι M s (a.eval (.tmp t))
  gi : ∀ i o t b, done i → nthOp ops i = some o → o.dst = some t → a.eval (.tmp t) = .bool b → HoldsL a (chainOf ops i)
  closed : ∀ i o j w, done i → nthOp ops i = some o → o.guard = some (j, w) → done j
  wf : WF st
  size : a.tmps.size = st.n
  defers : a.defers = []
  pin : ∀ p v, pv p = some v → a.eval (.tmp p) = v

section
variable {E : Env} {X : Nat → Prop} {w0 w : World} {Mx : Mem} {pv : Nat → Option Value} {ops : List Oper} {done : Nat → Prop} {st : St} {a : Act} {draw : Bool}

theorem yielded_iff {ops : Array Oper} {j : Nat} {oj : Oper} {t : Nat} (hj : ops[j]? = some oj) (ht : oj.dst = some t) {a : Act} {b : Bool} : yielded ops a.tmps j = some b ↔ a.eval (.tmp t) = .bool b := by
  unfold yielded Act.eval
  simp only [hj, Option.bind_some, ht, Array.getD_eq_getD_getElem?]
  cases a.tmps[t]? with
  | none => simp [undef]
  | some v => cases v <;> simp

/-- An operation is carried out just where all its guards hold. -/
theorem wanted_iff {ops : Array Oper} (hg : guardsOk ops.toList draw = true) (hgi : ∀ i o t b, done i → nthOp ops.toList i = some o → o.dst = some t → a.eval (.tmp t) = .bool b → HoldsL a (chainOf ops.toList i))
    {i : Nat} {o : Oper} (hi : nthOp ops.toList i = some o) (hdep : ∀ j w, o.guard = some (j, w) → done j) : Region.wanted o (yielded ops a.tmps) = true ↔ HoldsL a (chainOf ops.toList i) := by
  unfold Region.wanted
  cases hgd : o.guard with
  | none => simp only [chain_none hi hgd]; exact ⟨fun _ p hp => (by cases hp), fun _ => by trivial⟩
  | some g =>
    obtain ⟨j, w⟩ := g
    obtain ⟨oj, t, hj, ht, hlt, hc, _⟩ := guards_spec hg hi hgd
    rw [hc]
    simp only [beq_iff_eq]
    rw [yielded_iff (by rw [← nthOp_toList]; exact hj) ht]
    constructor
    · intro h p hp
      rcases List.mem_cons.1 hp with rfl | hp
      · exact h
      · exact hgi j oj t w (hdep j w hgd) hj ht h p hp
    · intro h; exact h (t, w) List.mem_cons_self

variable (hn : nodupN (dstsOf ops) = true)

include hn in
theorem slot_rel {ι : Nat → Value} {M : Mem} (hs : ∀ t s, st.slots t = some s → (∀ i o, done i → nthOp ops i = some o → o.dst = some t → HoldsL a (chainOf ops i)) → SVRel E.tt ι M s (a.eval (.tmp t)))
    {t : Nat} {s : SV} (h : st.slots t = some s) (hL : HoldsL a (grdOf ops t)) : SVRel E.tt ι M s (a.eval (.tmp t)) :=
  hs t s h fun i o _ hi ht => by rw [← grdOf_spec hn hi ht]; exact hL
include hn in
theorem ev_rel {ι : Nat → Value} {M : Mem} (hs : ∀ t s, st.slots t = some s → (∀ i o, done i → nthOp ops i = some o → o.dst = some t → HoldsL a (chainOf ops i)) → SVRel E.tt ι M s (a.eval (.tmp t)))
    {L : List (Nat × Bool)} (hL : HoldsL a L) (hconst : ∀ v s, constSV v = some s → SVRel E.tt ι M s v) {x : Operand} {s : SV} (h : ev st ops L x = some s) : SVRel E.tt ι M s (a.eval x) := by
  cases x with
  | tmp t =>
    replace h := cond_some.1 h
    exact slot_rel hn hs h.2 fun p hp => hL p (subGrd_iff.1 h.1 p hp)
  | const v => exact hconst v s h
  | func f => cases h; exact .of0 (Rep.any _ rfl rfl)
  | _ => cases h
include hn in
theorem evPick_rel {ι : Nat → Value} {M : Mem} (hs : ∀ t s, st.slots t = some s → (∀ i o, done i → nthOp ops i = some o → o.dst = some t → HoldsL a (chainOf ops i)) → SVRel E.tt ι M s (a.eval (.tmp t)))
    {L : List (Nat × Bool)} (hL : HoldsL a L) (hconst : ∀ v s, constSV v = some s → SVRel E.tt ι M s v) {x : Operand} {s : SV} {c : Nat} {b : Bool} (hc : a.eval (.tmp c) = .bool b) (h : evPick st ops L c b x = some s) : SVRel E.tt ι M s (a.eval x) := by
  cases x with
  | tmp t =>
    replace h := cond_some.1 h
    refine slot_rel hn hs h.2 fun p hp => ?_
    by_cases e : p = (c, b)
    · subst e; exact hc
    · exact hL p (subGrd_iff.1 h.1 p (dropGrd_mem hp e))
  | const v => exact hconst v s h
  | _ => cases h

include hn in
/-- Guards in the state and in memory. -/
theorem guardB_iff (hg : guardsOk ops draw = true) {ι : Nat → Value} {M : Mem} (hs : ∀ t s, st.slots t = some s → (∀ i o, done i → nthOp ops i = some o → o.dst = some t → HoldsL a (chainOf ops i)) → SVRel E.tt ι M s (a.eval (.tmp t))) :
    ∀ n i o, i < n → nthOp ops i = some o → guardsThere st (chainOf ops i) = true → (guardB st (chainOf ops i) = true ↔ HoldsL a (chainOf ops i)) := by
  intro n
  induction n with
  | zero => intro i o h; omega
  | succ n ih =>
    intro i o hin hi hth
    cases hgd : o.guard with
    | none => rw [chain_none hi hgd]; exact ⟨fun _ p hp => (by cases hp), fun _ => rfl⟩
    | some g =>
      obtain ⟨j, w⟩ := g
      obtain ⟨oj, t, hj, ht, hlt, hc, _⟩ := guards_spec hg hi hgd
      rw [hc] at hth ⊢
      simp only [guardsThere] at hth
      split at hth
      case h_2 => cases hth
      case h_1 d hst =>
        have hih := ih j oj (by omega) hj hth
        have hval : HoldsL a (chainOf ops j) → a.eval (.tmp t) = .bool d.toBool := by
          intro hL
          have := slot_rel hn hs hst (by rw [grdOf_spec hn hj ht]; exact hL)
          exact (Rep.inv_bool this).1
        have hhead : guardB st ((t, w) :: chainOf ops j) = true ↔ (d.toBool = w ∧ guardB st (chainOf ops j) = true) := by
          cases hcj : chainOf ops j with
          | nil => simp only [guardB, hst, boolEqB_iff]; simp
          | cons q r => simp only [guardB, hst, Bool.and_eq_true, boolEqB_iff]
        rw [hhead, hih]
        constructor
        · rintro ⟨h1, h2⟩ p hp
          rcases List.mem_cons.1 hp with rfl | hp
          · rw [hval h2, h1]
          · exact h2 p hp
        · intro h
          have h2 : HoldsL a (chainOf ops j) := fun p hp => h p (List.mem_cons_of_mem _ hp)
          refine ⟨?_, h2⟩
          have h3 := h (t, w) List.mem_cons_self
          simp only at h3
          rw [hval h2] at h3; injection h3

end
end Go.Proofs.YtcmeincdmphaoaaDoor.DS

namespace Go.Proofs.YtcmeincdmphaoaaDoor.DS

theorem SVRel0.congr {tt : TT} {ι ι' : Nat → Value} {M M' : Mem} {s : SV} {v : Value} (h : SVRel0 tt ι M s v) (hι : ∀ i, i ∈ refs0 s → ι' i = ι i) (hM : ∀ ad v, M ad = some v → M' ad = some v) : SVRel0 tt ι' M' s v := by
  cases s with
  | val k d => exact Rep.mono hM h
  | nil => exact h
  | eptr k d =>
    obtain ⟨ad, u, t, ti, h1, h2, h3, h4, h5, h6⟩ := h
    exact ⟨ad, u, t, ti, h1, h2, h3, h4, h5.mono hM, fun j c hj => hM _ _ (h6 j c hj)⟩
  | bptr i u off k =>
    obtain ⟨h1, b, h2, h3⟩ := h
    exact ⟨h1, b, by rw [hι i (by simp [refs0])]; exact h2, h3⟩
  | optr i e n off k =>
    obtain ⟨h1, b, n, cap, ei, h2, h3, h4⟩ := h
    exact ⟨h1, b, n, cap, ei, h2, by rw [hι i (by simp [refs0])]; exact h3, h4⟩
  | own i =>
    show v = ι' i ∧ ∃ a n c, ι' i = .slice a n c
    rw [hι i (by simp [refs0])]; exact h
  | tup l => exact h
  | sag _ _ l => exact h
  | selfn i =>
    rcases h with h | ⟨b, h1, h2⟩
    · exact .inl h
    · exact .inr ⟨b, by rw [hι i (by simp [refs0])]; exact h1, h2⟩
  | clo f i =>
    obtain ⟨b, h1, h2⟩ := h
    exact ⟨b, by rw [hι i (by simp [refs0])]; exact h1, h2⟩
  | mp i =>
    obtain ⟨b, h1, h2⟩ := h
    exact ⟨b, by rw [hι i (by simp [refs0])]; exact h1, h2⟩
  | view i e lo =>
    obtain ⟨ei, A, n, cap, h1, h2, h3⟩ := h
    exact ⟨ei, A, n, cap, h1, by rw [hι i (by simp [refs0])]; exact h2, h3⟩
  | gonel _ => exact h
theorem SVRel.congr {tt : TT} {ι ι' : Nat → Value} {M M' : Mem} {s : SV} {v : Value} (h : SVRel tt ι M s v) (hι : ∀ i, i ∈ refsOf s → ι' i = ι i) (hM : ∀ ad v, M ad = some v → M' ad = some v) : SVRel tt ι' M' s v := by
  cases s with
  | tup l =>
    obtain ⟨vs, h1, h2, h3⟩ := h
    exact ⟨vs, h1, h2, fun i s x hs hx => (h3 i s x hs hx).congr (fun j hj => hι j (mem_refsL.2 ⟨s, List.mem_of_getElem? hs, hj⟩)) hM⟩
  | val k d => exact Rep.mono hM h
  | nil => exact h
  | eptr k d => exact SVRel0.congr (ι := ι) (ι' := ι') (s := .eptr k d) h (fun i hi => by cases hi) hM
  | bptr i u off k => exact SVRel0.congr (M := M) (s := .bptr i u off k) h hι hM
  | optr i e n off k => exact SVRel0.congr (M := M) (s := .optr i e n off k) h hι hM
  | own i => exact SVRel0.congr (tt := tt) (M := M) (s := .own i) h hι hM
  | selfn i => exact SVRel0.congr (tt := tt) (M := M) (s := .selfn i) h hι hM
  | clo f i => exact SVRel0.congr (tt := tt) (M := M) (s := .clo f i) h hι hM
  | mp i => exact SVRel0.congr (tt := tt) (M := M) (s := .mp i) h hι hM
  | view i e lo => exact SVRel0.congr (tt := tt) (M := M) (s := .view i e lo) h hι hM
  | sag t ks l =>
    obtain ⟨ti, vs, h1, h2, h3, h4, h5, h6, h7⟩ := h
    exact ⟨ti, vs, h1, h2, h3, h4, h5, h6, fun i s x hs hx => (h7 i s x hs hx).congr (fun j hj => hι j (mem_refsL.2 ⟨s, List.mem_of_getElem? hs, hj⟩)) hM⟩
  | gonel _ => trivial
theorem ArrRel.congr {tt : TT} {M M' : Mem} {w w' : World} {e : TypeId} {ei : TI} {v : Value} {es : List D} (h : ArrRel tt M w e ei v es) (hM : ∀ ad v, M ad = some v → M' ad = some v) (hh : ∀ b, blockOf v = some b → w'.heap[b]? = w.heap[b]?) : ArrRel tt M' w' e ei v es := by
  rcases h with h | ⟨b, cap, cur, t, fr, vs, h1, h2, h3, h4, h5, h6, h7⟩
  · exact .inl h
  · refine .inr ⟨b, cap, cur, t, fr, vs, h1, by rw [hh b (by rw [h1]; rfl)]; exact h2, h3, h4, h5, h6, fun i hi => ?_⟩
    obtain ⟨q1, q2, q3⟩ := h7 i hi
    exact ⟨q1, q2, q3.mono hM⟩
theorem ObjRel.congr {tt : TT} {ι ι' : Nat → Value} {M M' : Mem} {w w' : World} {i : Nat} {o : Obj} (h : ObjRel tt ι M w i o) (hi : ι' i = ι i) (hι : ∀ j, j ∈ objRefs0 o → ι' j = ι j) (hM : ∀ ad v, M ad = some v → M' ad = some v)
    (hh : ∀ b, blockOf (ι i) = some b → w'.heap[b]? = w.heap[b]?) : ObjRel tt ι' M' w' i o := by
  cases o with
  | arr e es =>
    obtain ⟨ei, h1, h2, h3⟩ := h
    exact ⟨ei, h1, h2, by rw [hi]; exact h3.congr hM hh⟩
  | box t c =>
    obtain ⟨ti, b, cs, h1, h2, h3, h4⟩ := h
    refine ⟨ti, b, cs, h1, by rw [hi]; exact h2, by rw [hh b (by rw [h2]; rfl)]; exact h3, ?_⟩
    cases c with
    | whole d => exact ⟨h4.1, h4.2.mono hM⟩
    | cells l =>
      obtain ⟨h5, h6, h7⟩ := h4
      exact ⟨h5, h6, fun j s c hs hc => (h7 j s c hs hc).congr (fun k hk => hι k (mem_refsL.2 ⟨s, List.mem_of_getElem? hs, hk⟩)) hM⟩
  | map t kvs =>
    obtain ⟨ti, k, e, ki, ei, b, es, clock, q1, q2, q3, q4, q5, q6, q7, h1, h2, h3⟩ := h
    exact ⟨ti, k, e, ki, ei, b, es, clock, q1, q2, q3, q4, q5, q6, q7, by rw [hi]; exact h1, by rw [hh b (by rw [h1]; rfl)]; exact h2, h3.mono hM⟩

theorem putAll_eq (f : Nat → Option Obj) (os : List (Nat × Obj)) (i : Nat) : putAll f os i = match lk i os with | some o => some o | none => f i := by
  induction os with
  | nil => rfl
  | cons p r ih =>
    obtain ⟨id, o⟩ := p
    simp only [putAll, put, lk]
    cases h : Nat.beq i id with
    | true => rfl
    | false => simp only [cond_false]; exact ih
theorem freshAll_spec {st : St} {os : List (Nat × Obj)} (h : freshAll st os = true) {i : Nat} {o : Obj} (hi : lk i os = some o) : st.objs i = none := by
  induction os with
  | nil => cases hi
  | cons p r ih =>
    obtain ⟨id, o'⟩ := p
    simp only [freshAll] at h
    cases hf : fresh st id with
    | false => rw [hf] at h; cases h
    | true =>
      rw [hf] at h
      simp only [lk] at hi
      cases hb : Nat.beq i id with
      | true =>
        have := beq_iff.1 hb; subst this
        unfold fresh at hf
        split at hf
        · cases hf
        · assumption
      | false => rw [hb] at hi; exact ih h hi

def joinι (os : List (Nat × Obj)) (ι ι2 : Nat → Value) (i : Nat) : Value := match lk i os with | some _ => ι2 i | none => ι i

/-- The caller's objects and the callee's. -/
theorem HRel.merge {tt : TT} {X : Nat → Prop} {w0 w w' : World} {Mx M M' : Mem} {ι ι2 : Nat → Value} {objs : Nat → Option Obj} {os : List (Nat × Obj)} (H : HRel tt X w0 Mx ι M objs w)
    (R : HRel tt (fun _ => False) w M ι2 M' (fun i => lk i os) w') (hf : ∀ i o, lk i os = some o → objs i = none) (hcells : ∀ j o, objs j = some o → ∀ i, i ∈ objRefs0 o → ∃ o', objs i = some o')
    (hno : ∀ i o, lk i os = some o → objRefs0 o = []) : HRel tt X w0 Mx (joinι os ι ι2) M' (putAll objs os) w' := by
  have hcase : ∀ i o, putAll objs os i = some o → (lk i os = some o ∧ joinι os ι ι2 i = ι2 i) ∨ (lk i os = none ∧ objs i = some o ∧ joinι os ι ι2 i = ι i) := by
    intro i o h
    rw [putAll_eq] at h
    unfold joinι
    cases hl : lk i os with
    | some o' => rw [hl] at h; injection h with h; subst h; exact .inl ⟨rfl, rfl⟩
    | none => rw [hl] at h; exact .inr ⟨rfl, h, rfl⟩
  have hold : ∀ i o, objs i = some o → joinι os ι ι2 i = ι i := by
    intro i o h
    unfold joinι
    cases hl : lk i os with
    | some o' => rw [hf i o' hl] at h; cases h
    | none => rfl
  have hkeep : ∀ b, b < w.heap.size → w'.heap[b]? = w.heap[b]? := fun b hb => R.keep b hb (fun h => h)
  have hge : ∀ i o b, lk i os = some o → blockOf (ι2 i) = some b → w.heap.size ≤ b := by
    intro i o b h1 h2
    rcases (R.own i o b h1 h2).1 with h | h
    · exact h
    · exact h.elim
  refine ⟨?_, ?_, ?_, R.mem, fun ad v h => R.memx ad v (H.memx ad v h), ?_, R.os.trans H.os, R.tape.trans H.tape, R.output.trans H.output, Nat.le_trans H.size R.size, ?_⟩
  · intro i o ho
    rcases hcase i o ho with ⟨h1, h2⟩ | ⟨_, h1, h2⟩
    · exact (R.obj i o h1).congr h2 (fun j hj => by rw [hno i o h1] at hj; cases hj) (fun _ _ h => h) (fun _ _ => rfl)
    · refine (H.obj i o h1).congr h2 (fun j hj => ?_) R.memx (fun b hb => hkeep b ((H.obj i o h1).block_lt hb))
      obtain ⟨o', ho'⟩ := hcells i o h1 j hj
      exact hold j o' ho'
  · intro i j oi oj b hi hj hij hbi hbj
    rcases hcase i oi hi with ⟨h1, h2⟩ | ⟨_, h1, h2⟩ <;> rcases hcase j oj hj with ⟨h3, h4⟩ | ⟨_, h3, h4⟩
    · rw [h2] at hbi; rw [h4] at hbj; exact R.disj i j oi oj b h1 h3 hij hbi hbj
    · rw [h2] at hbi; rw [h4] at hbj
      have := hge i oi b h1 hbi
      have := (H.obj j oj h3).block_lt hbj
      omega
    · rw [h2] at hbi; rw [h4] at hbj
      have := hge j oj b h3 hbj
      have := (H.obj i oi h1).block_lt hbi
      omega
    · rw [h2] at hbi; rw [h4] at hbj; exact H.disj i j oi oj b h1 h3 hij hbi hbj
  · intro i o b hi hb
    rcases hcase i o hi with ⟨h1, h2⟩ | ⟨_, h1, h2⟩
    · rw [h2] at hb
      obtain ⟨_, q2⟩ := R.own i o b h1 hb
      exact ⟨.inl (Nat.le_trans H.size (hge i o b h1 hb)), q2⟩
    · rw [h2] at hb
      obtain ⟨q1, q2⟩ := H.own i o b h1 hb
      refine ⟨q1, fun off sp => ?_⟩
      have hlt := (H.obj i o h1).block_lt hb
      rw [R.memB ⟨b, off, sp⟩ hlt (fun h => h)]
      exact q2 off sp
  · intro ad hb hX
    rw [R.memB ad (Nat.lt_of_lt_of_le hb H.size) (fun h => h)]
    exact H.memB ad hb hX
  · intro b hb hX
    rw [hkeep b (Nat.lt_of_lt_of_le hb H.size)]
    exact H.keep b hb hX

/-- Results that lie in memory. -/
theorem resSV_spec : ∀ (rs : List RM) (base j : Nat) (ds : List D) svs os, resSV rs base j ds = some (svs, os) →
    (∀ i o, lk i os = some o → objRefs0 o = []) ∧ (∀ s ∈ svs, ∀ i, i ∈ refs0 s → ∃ o, lk i os = some o) ∧ (∀ t, .tup t ∉ svs) ∧ svs.length = rs.length ∧ ∀ t ks l, .sag t ks l ∉ svs := by
  intro rs
  induction rs with
  | nil =>
    intro base j ds svs os h
    injection h with h; injection h with h1 h2; subst h1 h2
    exact ⟨fun i o h => (by cases h), fun s h => (by cases h), fun t h => (by cases h), rfl, fun t ks l h => by cases h⟩
  | cons r rs ih =>
    intro base j ds svs os h
    cases r with
    | val k =>
      simp only [resSV] at h
      obtain ⟨x, hx, h⟩ := opt_some.1 h
      injection h with h; injection h with h1 h2; subst h1 h2
      obtain ⟨q1, q2, q3, q4, q5⟩ := ih base (j + 1) ds _ _ hx
      refine ⟨q1, ?_, ?_, by simp [q4], fun t ks l h => by simp at h; exact q5 t ks l h⟩
      · intro s hs i hi
        rcases List.mem_cons.1 hs with rfl | hs
        · cases hi
        · exact q2 s hs i hi
      · intro t ht
        rcases List.mem_cons.1 ht with ht | ht
        · cases ht
        · exact q3 t ht
    | any =>
      simp only [resSV] at h
      obtain ⟨x, hx, h⟩ := opt_some.1 h
      injection h with h; injection h with h1 h2; subst h1 h2
      obtain ⟨q1, q2, q3, q4, q5⟩ := ih base (j + 1) ds _ _ hx
      refine ⟨q1, ?_, ?_, by simp [q4], fun t ks l h => by simp at h; exact q5 t ks l h⟩
      · intro s hs i hi
        rcases List.mem_cons.1 hs with rfl | hs
        · cases hi
        · exact q2 s hs i hi
      · intro t ht
        rcases List.mem_cons.1 ht with ht | ht
        · cases ht
        · exact q3 t ht
    | own e =>
      simp only [resSV] at h
      obtain ⟨x, hx, h⟩ := opt_some.1 h
      injection h with h; injection h with h1 h2; subst h1 h2
      obtain ⟨q1, q2, q3, q4, q5⟩ := ih base (j + 1) ds _ _ hx
      refine ⟨?_, ?_, ?_, by simp [q4], fun t ks l h => by simp at h; exact q5 t ks l h⟩
      · intro i o h
        simp only [lk] at h
        cases hb : Nat.beq i (base + j) with
        | true => rw [hb] at h; simp only [cond_true] at h; injection h with h; subst h; rfl
        | false => rw [hb] at h; exact q1 i o h
      · intro s hs i hi
        rcases List.mem_cons.1 hs with rfl | hs
        · simp only [refs0, List.mem_singleton] at hi
          subst hi
          exact ⟨Obj.arr e (ds.getD j .no).toList, by simp only [lk, beq_self, cond_true]⟩
        · obtain ⟨o, ho⟩ := q2 s hs i hi
          simp only [lk]
          cases hb : Nat.beq i (base + j) with
          | true => exact ⟨_, rfl⟩
          | false => exact ⟨o, ho⟩
      · intro t ht
        rcases List.mem_cons.1 ht with ht | ht
        · cases ht
        · exact q3 t ht
    | mp mt =>
      simp only [resSV] at h
      obtain ⟨x, hx, h⟩ := opt_some.1 h
      injection h with h; injection h with h1 h2; subst h1 h2
      obtain ⟨q1, q2, q3, q4, q5⟩ := ih base (j + 1) ds _ _ hx
      refine ⟨?_, ?_, ?_, by simp [q4], fun t ks l h => by simp at h; exact q5 t ks l h⟩
      · intro i o h
        simp only [lk] at h
        cases hb : Nat.beq i (base + j) with
        | true => rw [hb] at h; simp only [cond_true] at h; injection h with h; subst h; rfl
        | false => rw [hb] at h; exact q1 i o h
      · intro s hs i hi
        rcases List.mem_cons.1 hs with rfl | hs
        · simp only [refs0, List.mem_singleton] at hi
          subst hi
          exact ⟨Obj.map mt (unkv (ds.getD j .no).toList), by simp only [lk, beq_self, cond_true]⟩
        · obtain ⟨o, ho⟩ := q2 s hs i hi
          simp only [lk]
          cases hb : Nat.beq i (base + j) with
          | true => exact ⟨_, rfl⟩
          | false => exact ⟨o, ho⟩
      · intro t ht
        rcases List.mem_cons.1 ht with ht | ht
        · cases ht
        · exact q3 t ht

abbrev oneSV := oneV

/-- What a call leaves to which nothing was handed over. -/
def RetV (E : Env) (w : World) (M : Mem) (rs : List RM) (ds : List D) (v : Value) (w' : World) : Prop :=
  ∀ base svs os, resSV rs base 0 ds = some (svs, os) → ∃ ι M', HRel E.tt (fun _ => False) w M ι M' (fun i => lk i os) w' ∧ SVRel E.tt ι M' (oneSV svs) v
/-- The boxes among the parameters, under the caller's numbers. -/
def boxesP (bid : Nat → Nat) : Nat → List PM → List (Nat × TypeId × List CK)
  | _, [] => []
  | i, .box t cs :: r => (bid i, t, cs) :: boxesP bid (i + 1) r
  | i, _ :: r => boxesP bid (i + 1) r
/-- What a call leaves. -/
def RetOK (E : Env) (X : Nat → Prop) (w : World) (M : Mem) (ps : List PM) (rs : List RM) (vs : List Value) (ds : List D) (v : Value) (w' : World) : Prop :=
  ∀ base (bid : Nat → Nat) svs os, resSV rs base 0 ds = some (svs, os) → nodupL (keysN (os ++ boxObjs (boxesP bid 0 ps) rs.length ds)) = true →
    ∃ ι M', HRel E.tt X w M ι M' (fun i => lk i (os ++ boxObjs (boxesP bid 0 ps) rs.length ds)) w' ∧ SVRel E.tt ι M' (oneSV svs) v ∧ (∀ i, i ∈ refsOf (oneSV svs) → ∃ o, lk i os = some o) ∧ ∀ p t cs, ps[p]? = some (.box t cs) → vs[p]? = some (ι (bid p))
def ArgsRep (tt : TT) (M : Mem) : List PM → List Value → List D → Prop
  | [], [], [] => True
  | .val k :: ps, v :: vs, d :: ds => Rep tt M k v d ∧ ArgsRep tt M ps vs ds
  | .ref k :: ps, v :: vs, d :: ds => SVRel0 tt (fun _ => undef) M (.eptr k d) v ∧ ArgsRep tt M ps vs ds
  | _, _, _ => False
/-- Arguments: what the callee begins with. -/
def ArgsOK (E : Env) (X : Nat → Prop) (w : World) (M : Mem) (ps : List PM) (vs : List Value) (ds : List D) : Prop :=
  vs.length = ps.length ∧ ∃ sl os ι, paramSt ps 0 ds = some (sl, os) ∧ HRel E.tt X w M ι M (fun i => lk i os) w ∧ (∀ t s, lk t sl = some s → (∃ v, vs[t]? = some v ∧ SVRel E.tt ι M s v) ∧ ∀ i, i ∈ refsOf s → ∃ o, lk i os = some o) ∧
    ∀ j o, lk j os = some o → ∀ i, i ∈ objRefs0 o → ∃ o', lk i os = some o'
def CallsF (P : Program) (f : Nat) (args : Array Value) (w : World) (R : Value → World → Prop) : Prop :=
  ((callFunc f args).run P w = .ok (.enter f args) w ∧ Calls P f args w (fun | .returned v, w' => R v w' | _, _ => False)) ∨ ∃ v w', (callFunc f args).run P w = .ok (.value v) w' ∧ R v w'
theorem CallsF.mono {P : Program} {f : Nat} {args : Array Value} {w : World} {R R' : Value → World → Prop} (h : CallsF P f args w R) (hR : ∀ v w', R v w' → R' v w') : CallsF P f args w R' := by
  rcases h with ⟨h1, h2⟩ | ⟨v, w', h1, h2⟩
  · refine .inl ⟨h1, h2.mono fun e w' he => ?_⟩
    cases e with
    | returned v => exact hR v w' he
    | panicked c => exact he
    | outgrown => exact he
  · exact .inr ⟨v, w', h1, hR v w' h2⟩
/-- The first blocks are as they were when the law was called. -/
structure Same (W0 w : World) : Prop where
  size : W0.heap.size ≤ w.heap.size
  os : w.os = W0.os
  tape : w.tape = W0.tape
  output : w.output = W0.output
  heap : ∀ b, b < W0.heap.size → w.heap[b]? = W0.heap[b]?
theorem Same.refl (w : World) : Same w w := ⟨Nat.le_refl _, rfl, rfl, rfl, fun _ _ => rfl⟩
theorem HRel.same {tt : TT} {X : Nat → Prop} {W0 w0 w : World} {Mx M : Mem} {ι : Nat → Value} {objs : Nat → Option Obj} (H : HRel tt X w0 Mx ι M objs w) (hS : Same W0 w0) (hX : ∀ b, X b → W0.heap.size ≤ b) : Same W0 w :=
  ⟨Nat.le_trans hS.size H.size, H.os.trans hS.os, H.tape.trans hS.tape, H.output.trans hS.output, fun b hb => by
    rw [H.keep b (Nat.lt_of_lt_of_le hb hS.size) (fun h => by have := hX b h; omega), hS.heap b hb]⟩
def CallOK (P : Program) (E : Env) (W0 : World) (callk : Nat → List D → R) : Prop := ∀ f sg ds r, lk f E.sigs = some sg → callk f ds = some r →
  ∀ (w : World) (M : Mem) (vs : List Value) (X : Nat → Prop), Same W0 w → (∀ b, X b → W0.heap.size ≤ b) → ArgsOK E X w M sg.params vs ds → CallsF P f vs.toArray w (RetOK E X w M sg.outs sg.results vs r)

theorem HRel.start {tt : TT} {X : Nat → Prop} {w : World} {M : Mem} {ι : Nat → Value} (hM : ∀ ad v, M ad = some v → w.cell? ad = some v) : HRel tt X w M ι M (fun _ => none) w :=
  ⟨fun id o h => (by cases h), fun id id2 o o2 b h => (by cases h), fun id o b h => (by cases h), hM, fun _ _ h => h, fun _ _ _ => rfl, rfl, rfl, rfl, Nat.le_refl _, fun _ _ _ => rfl⟩
theorem argsRep_len {tt : TT} {M : Mem} : ∀ {ps : List PM} {vs : List Value} {ds : List D}, ArgsRep tt M ps vs ds → vs.length = ps.length := by
  intro ps
  induction ps with
  | nil =>
    intro vs ds h
    cases vs with
    | nil => rfl
    | cons _ _ => cases ds <;> exact h.elim
  | cons p ps ih =>
    intro vs ds h
    cases p with
    | val k =>
      cases vs with
      | nil => cases ds <;> exact h.elim
      | cons v vs =>
        cases ds with
        | nil => exact h.elim
        | cons d ds => simp [ih h.2]
    | ref k =>
      cases vs with
      | nil => cases ds <;> exact h.elim
      | cons v vs =>
        cases ds with
        | nil => exact h.elim
        | cons d ds => simp [ih h.2]
    | _ => cases vs <;> cases ds <;> exact h.elim
theorem param_vals {tt : TT} {M : Mem} {ι : Nat → Value} : ∀ (ps : List PM) (i : Nat) (vs : List Value) (ds : List D), ArgsRep tt M ps vs ds →
    ∃ sl, paramSt ps i ds = some (sl, []) ∧ ∀ t s, lk t sl = some s → i ≤ t ∧ (∃ v, vs[t - i]? = some v ∧ SVRel tt ι M s v) ∧ refsOf s = [] := by
  intro ps
  induction ps with
  | nil =>
    intro i vs ds h
    cases vs with
    | nil =>
      cases ds with
      | nil => exact ⟨[], rfl, fun t s h => by cases h⟩
      | cons _ _ => exact h.elim
    | cons _ _ => cases ds <;> exact h.elim
  | cons p ps ih =>
    intro i vs ds h
    cases p with
    | val k =>
      cases vs with
      | nil => cases ds <;> exact h.elim
      | cons v vs =>
        cases ds with
        | nil => exact h.elim
        | cons d ds =>
          obtain ⟨h1, h2⟩ := h
          obtain ⟨sl, q1, q2⟩ := ih (i + 1) vs ds h2
          refine ⟨(i, .val k (canon k d)) :: sl, by simp only [paramSt, q1, opt], fun t s h => ?_⟩
          simp only [lk] at h
          cases hb : Nat.beq t i with
          | true =>
            rw [hb] at h; injection h with h; subst h
            have := beq_iff.1 hb; subst this
            refine ⟨Nat.le_refl _, ⟨v, by simp, ?_⟩, rfl⟩
            show Rep tt M k v (canon k d)
            rw [h1.canon]; exact h1
          | false =>
            rw [hb] at h
            obtain ⟨r1, ⟨v', r2, r3⟩, r4⟩ := q2 t s h
            refine ⟨by omega, ⟨v', ?_, r3⟩, r4⟩
            rw [show t - i = (t - (i + 1)) + 1 by omega, List.getElem?_cons_succ]; exact r2
    | ref k =>
      cases vs with
      | nil => cases ds <;> exact h.elim
      | cons v vs =>
        cases ds with
        | nil => exact h.elim
        | cons d ds =>
          obtain ⟨h1, h2⟩ := h
          obtain ⟨sl, q1, q2⟩ := ih (i + 1) vs ds h2
          refine ⟨(i, .eptr k (canon k d)) :: sl, by simp only [paramSt, q1, opt], fun t s h => ?_⟩
          simp only [lk] at h
          cases hb : Nat.beq t i with
          | true =>
            rw [hb] at h; injection h with h; subst h
            have := beq_iff.1 hb; subst this
            refine ⟨Nat.le_refl _, ⟨v, by simp, ?_⟩, rfl⟩
            obtain ⟨ad, u, t', ti, g1, g2, g3, g4, g5, g6⟩ := h1
            exact ⟨ad, u, t', ti, g1, g2, g3, g4, by rw [g5.canon]; exact g5, g6⟩
          | false =>
            rw [hb] at h
            obtain ⟨r1, ⟨v', r2, r3⟩, r4⟩ := q2 t s h
            refine ⟨by omega, ⟨v', ?_, r3⟩, r4⟩
            rw [show t - i = (t - (i + 1)) + 1 by omega, List.getElem?_cons_succ]; exact r2
    | _ => cases vs <;> cases ds <;> exact h.elim
theorem argsOK_of {E : Env} {X : Nat → Prop} {w : World} {M : Mem} {ps : List PM} {vs : List Value} {ds : List D} (h : ArgsRep E.tt M ps vs ds) (hM : ∀ ad v, M ad = some v → w.cell? ad = some v) : ArgsOK E X w M ps vs ds := by
  obtain ⟨sl, h1, h2⟩ := param_vals (ι := fun _ => undef) ps 0 vs ds h
  refine ⟨argsRep_len h, sl, [], fun _ => undef, h1, HRel.start hM, fun t s ht => ?_, fun j o h => by cases h⟩
  obtain ⟨_, ⟨v, q1, q2⟩, q3⟩ := h2 t s ht
  exact ⟨⟨v, by simpa using q1, q2⟩, fun i hi => by rw [q3] at hi; cases hi⟩
theorem resSV_keys : ∀ (rs : List RM) (base j : Nat) (ds : List D) svs os, resSV rs base j ds = some (svs, os) → nodupL (keysN os) = true ∧ ∀ k ∈ keysN os, base + j ≤ k := by
  intro rs
  induction rs with
  | nil => intro base j ds svs os h; injection h with h; injection h with h1 h2; subst h1 h2; exact ⟨rfl, fun k hk => by cases hk⟩
  | cons r rs ih =>
    intro base j ds svs os h
    cases r with
    | val k =>
      obtain ⟨x, hx, h⟩ := opt_some.1 h
      injection h with h; injection h with h1 h2; subst h1 h2
      obtain ⟨q1, q2⟩ := ih base (j + 1) ds _ _ hx
      exact ⟨q1, fun k hk => by have := q2 k hk; omega⟩
    | any =>
      obtain ⟨x, hx, h⟩ := opt_some.1 h
      injection h with h; injection h with h1 h2; subst h1 h2
      obtain ⟨q1, q2⟩ := ih base (j + 1) ds _ _ hx
      exact ⟨q1, fun k hk => by have := q2 k hk; omega⟩
    | own e =>
      obtain ⟨x, hx, h⟩ := opt_some.1 h
      injection h with h; injection h with h1 h2; subst h1 h2
      obtain ⟨q1, q2⟩ := ih base (j + 1) ds _ _ hx
      refine ⟨?_, fun k hk => ?_⟩
      · simp only [keysN, nodupL]
        cases hm : memN (base + j) (keysN x.2) with
        | true => have := q2 _ (memN_iff.1 hm); omega
        | false => exact q1
      · rcases List.mem_cons.1 hk with rfl | hk
        · exact Nat.le_refl _
        · have := q2 k hk; omega
    | mp mt =>
      obtain ⟨x, hx, h⟩ := opt_some.1 h
      injection h with h; injection h with h1 h2; subst h1 h2
      obtain ⟨q1, q2⟩ := ih base (j + 1) ds _ _ hx
      refine ⟨?_, fun k hk => ?_⟩
      · simp only [keysN, nodupL]
        cases hm : memN (base + j) (keysN x.2) with
        | true => have := q2 _ (memN_iff.1 hm); omega
        | false => exact q1
      · rcases List.mem_cons.1 hk with rfl | hk
        · exact Nat.le_refl _
        · have := q2 k hk; omega
theorem boxesP_vals : ∀ (ps : List PM) (bid : Nat → Nat) (i : Nat), allValP ps = true → boxesP bid i ps = [] := by
  intro ps
  induction ps with
  | nil => intro _ _ _; rfl
  | cons p r ih =>
    intro bid i h
    cases p with
    | val k => exact ih bid (i + 1) h
    | _ => cases h
def noBoxP : List PM → Bool
  | [] => true
  | .box _ _ :: _ => false
  | _ :: r => noBoxP r
theorem boxesP_no : ∀ (ps : List PM) (bid : Nat → Nat) (i : Nat), noBoxP ps = true → boxesP bid i ps = [] := by
  intro ps
  induction ps with
  | nil => intro _ _ _; rfl
  | cons p r ih =>
    intro bid i h
    cases p with
    | box _ _ => cases h
    | _ => exact ih bid (i + 1) h
theorem noBox_of_val : ∀ {ps : List PM}, allValP ps = true → noBoxP ps = true := by
  intro ps
  induction ps with
  | nil => intro _; rfl
  | cons p r ih =>
    intro h
    cases p with
    | val k => exact ih h
    | _ => cases h
theorem noBox_outs {sg : Sig} (h : noBoxP sg.params = true) : noBoxP sg.outs = true := by
  unfold Sig.outs
  cases sg.gone with
  | true => rfl
  | false => exact h
theorem ret_vals {E : Env} {w : World} {M : Mem} {ps : List PM} {rs : List RM} {vs : List Value} {ds : List D} {v : Value} {w' : World} (hp : noBoxP ps = true) (h : RetOK E (fun _ => False) w M ps rs vs ds v w') : RetV E w M rs ds v w' := by
  intro base svs os hr
  have hb := boxesP_no ps (fun _ => 0) 0 hp
  obtain ⟨ι, M', h1, h2, _⟩ := h base (fun _ => 0) svs os hr (by rw [hb]; simp only [boxObjs, List.append_nil]; exact (resSV_keys rs base 0 ds svs os hr).1)
  rw [hb] at h1
  simp only [boxObjs, List.append_nil] at h1
  exact ⟨ι, M', h1, h2⟩
/-- What is flat hangs on no memory. -/
theorem Rep.flat {tt : TT} {M M' : Mem} {k : KT} {v : Value} {d : D} (hk : flatK k = true) (h : Rep tt M k v d) : Rep tt M' k v d := by
  cases h with
  | bool b => exact .bool b
  | int k n h => exact .int k n h
  | str s h => exact .str s h
  | _ => cases hk
theorem ret_flat {E : Env} {w : World} {M M1 : Mem} {rs : List RM} {ds : List D} {v : Value} {w' : World} (hf : flatR rs = true) (hM : ∀ ad v, M ad = some v → M1 ad = some v) (hw : ∀ ad v, M1 ad = some v → w.cell? ad = some v) (h : RetV E w M1 rs ds v w') : RetV E w M rs ds v w' := by
  intro base svs os hr
  obtain ⟨ι, M', H, hv⟩ := h base svs os hr
  have key : ∀ (rs : List RM) (j : Nat) svs os, flatR rs = true → resSV rs base j ds = some (svs, os) → os = [] ∧ ∀ s ∈ svs, ∃ k d, s = .val k d ∧ flatK k = true := by
    intro rs
    induction rs with
    | nil => intro j svs os _ h; injection h with h; injection h with h1 h2; subst h1 h2; exact ⟨rfl, fun s h => by cases h⟩
    | cons r rs ih =>
      intro j svs os hf h
      cases r with
      | own e => cases hf
      | mp _ => cases hf
      | any => cases hf
      | val k =>
        simp only [flatR, Bool.and_eq_true] at hf
        obtain ⟨x, hx, h⟩ := opt_some.1 h
        injection h with h; injection h with h1 h2; subst h1 h2
        obtain ⟨q1, q2⟩ := ih (j + 1) _ _ hf.2 hx
        refine ⟨q1, fun s hs => ?_⟩
        rcases List.mem_cons.1 hs with rfl | hs
        · exact ⟨k, _, rfl, hf.1⟩
        · exact q2 s hs
  obtain ⟨k1, k2⟩ := key rs 0 svs os hf hr
  subst k1
  refine ⟨ι, M, ⟨fun id o h => (by cases h), fun id id2 o o2 b h => (by cases h), fun id o b h => (by cases h), fun ad v h => H.mem ad v (H.memx ad v (hM ad v h)), fun _ _ h => h, fun _ _ _ => rfl, H.os, H.tape, H.output, H.size, H.keep⟩, ?_⟩
  cases svs with
  | nil =>
    obtain ⟨vs, h1, h2, h3⟩ := hv
    exact ⟨vs, h1, h2, fun i s x hs => by simp at hs⟩
  | cons s r =>
    obtain ⟨k, d, rfl, hk⟩ := k2 s List.mem_cons_self
    cases r with
    | nil => exact Rep.flat hk hv
    | cons s2 r =>
      obtain ⟨vs, h1, h2, h3⟩ := hv
      refine ⟨vs, h1, h2, fun i s x hs hx => ?_⟩
      obtain ⟨k', d', e, hk'⟩ := k2 s (List.mem_of_getElem? hs)
      subst e
      exact Rep.flat hk' (h3 i _ x hs hx)

/-- What an operation leaves, in the state and in memory. -/
structure Left (E : Env) (X : Nat → Prop) (w0 : World) (Mx : Mem) (ι : Nat → Value) (M : Mem) (st s : St) (w' : World) (v : SV) (u : Value) : Prop where
  ex : ∃ ι' M', HRel E.tt X w0 Mx ι' M' s.objs w' ∧ (∀ t s1, s.slots t = some s1 → ∃ s0, st.slots t = some s0 ∧ ∀ v0, SVRel E.tt ι M s0 v0 → SVRel E.tt ι' M' s1 v0) ∧ SVRel E.tt ι' M' v u
  n : s.n = st.n
  wf : WF s
  refs : ∀ i, i ∈ refsOf v → ∃ o, s.objs i = some o

theorem refs_oneSV {svs : List SV} (h : ∀ t, .tup t ∉ svs) (h2 : ∀ t ks l, .sag t ks l ∉ svs) {i : Nat} (hi : i ∈ refsOf (oneSV svs)) : ∃ s ∈ svs, i ∈ refs0 s := by
  cases svs with
  | nil => cases hi
  | cons s r =>
    cases r with
    | nil =>
      refine ⟨s, List.mem_cons_self, ?_⟩
      cases s with
      | tup t => exact absurd List.mem_cons_self (h t)
      | sag t ks l => exact absurd List.mem_cons_self (h2 t ks l)
      | _ => exact hi
    | cons s2 r => exact mem_refsL.1 hi

theorem WF.putAll {st : St} {os : List (Nat × Obj)} (hwf : WF st) (hno : ∀ i o, lk i os = some o → objRefs0 o = []) : WF { st with objs := putAll st.objs os } := by
  have hin : ∀ i o, st.objs i = some o → ∃ o', DS.putAll st.objs os i = some o' := by
    intro i o h
    rw [putAll_eq]
    cases lk i os with
    | some o' => exact ⟨o', rfl⟩
    | none => exact ⟨o, h⟩
  constructor
  · intro t s hs i hi
    obtain ⟨o, ho⟩ := hwf.slots t s hs i hi
    exact hin i o ho
  · intro j o hj i hi
    simp only [putAll_eq] at hj
    cases hl : lk j os with
    | some o' =>
      rw [hl] at hj; injection hj with hj; subst hj
      rw [hno j _ hl] at hi; cases hi
    | none =>
      rw [hl] at hj
      obtain ⟨o', ho'⟩ := hwf.cells j o hj i hi
      exact hin i o' ho'

/-- A call's end. -/
theorem ret_left {E : Env} {X : Nat → Prop} {w0 w w' : World} {Mx M : Mem} {ι : Nat → Value} {st : St} (H : HRel E.tt X w0 Mx ι M st.objs w) (hwf : WF st) {rs : List RM} {ds : List D} {v : Value} (hr : RetV E w M rs ds v w')
    {dst : Option Nat} {u : Upd} (hu : resUpd st rs dst ds = some u) : u.ob = none ∧ Left E X w0 Mx ι M st { st with objs := putAll st.objs u.obs } w' u.v v := by
  have key : ∀ base svs os, resSV rs base 0 ds = some (svs, os) → freshAll st os = true → ∃ ι' M', HRel E.tt X w0 Mx ι' M' (putAll st.objs os) w' ∧ (∀ t s1, st.slots t = some s1 → ∃ s0, st.slots t = some s0 ∧ ∀ v0, SVRel E.tt ι M s0 v0 → SVRel E.tt ι' M' s1 v0) ∧ SVRel E.tt ι' M' (oneSV svs) v ∧
      WF { st with objs := putAll st.objs os } ∧ ∀ i, i ∈ refsOf (oneSV svs) → ∃ o, putAll st.objs os i = some o := by
    intro base svs os hx hfr
    obtain ⟨ι2, M', HR, hv⟩ := hr base svs os hx
    obtain ⟨q1, q2, q3, q4, q5⟩ := resSV_spec rs base 0 ds svs os hx
    have hf : ∀ i o, lk i os = some o → st.objs i = none := fun i o h => freshAll_spec hfr h
    refine ⟨joinι os ι ι2, M', H.merge HR hf hwf.cells q1, ?_, ?_, hwf.putAll q1, ?_⟩
    · intro t s1 hs1
      refine ⟨s1, hs1, fun v0 h0 => h0.congr (fun i hi => ?_) HR.memx⟩
      obtain ⟨o, ho⟩ := hwf.slots t s1 hs1 i hi
      unfold joinι
      cases hl : lk i os with
      | some o' => rw [hf i o' hl] at ho; cases ho
      | none => rfl
    · refine hv.congr (fun i hi => ?_) (fun _ _ h => h)
      obtain ⟨s, hs, hi⟩ := refs_oneSV q3 q5 hi
      obtain ⟨o, ho⟩ := q2 s hs i hi
      unfold joinι; rw [ho]
    · intro i hi
      obtain ⟨s, hs, hi⟩ := refs_oneSV q3 q5 hi
      obtain ⟨o, ho⟩ := q2 s hs i hi
      rw [putAll_eq, ho]; exact ⟨o, rfl⟩
  have gone : allValR rs = true → Left E X w0 Mx ι M st { st with objs := putAll st.objs [] } w' .gone v := by
    intro hv
    obtain ⟨svs, hx, _, _⟩ := resSV_vals rs 0 0 ds hv
    obtain ⟨ι', M', k1, k2, k3, k4, k5⟩ := key 0 svs [] hx rfl
    exact ⟨⟨ι', M', k1, k2, trivial⟩, rfl, k4, fun i hi => by cases hi⟩
  unfold resUpd at hu
  cases dst with
  | none =>
    cases rs with
    | nil => injection hu with hu; subst hu; exact ⟨rfl, gone rfl⟩
    | cons r rs =>
      simp only at hu
      obtain ⟨x, hx, hu⟩ := opt_some.1 hu
      obtain ⟨hv, hu⟩ := cond_some.1 hu
      injection hu with hu; subst hu
      exact ⟨rfl, gone hv⟩
  | some t =>
    simp only at hu
    split at hu
    · rename_i r
      obtain ⟨x, hx, hu⟩ := opt_some.1 hu
      obtain ⟨hfr, hu⟩ := cond_some.1 hu
      split at hu
      · rename_i s hs
        injection hu with hu; subst hu
        obtain ⟨ι', M', k1, k2, k3, k4, k5⟩ := key t x.1 x.2 hx hfr
        rw [hs] at k3 k5
        exact ⟨rfl, ⟨ι', M', k1, k2, k3⟩, rfl, k4, k5⟩
      · cases hu
    · rename_i hne
      obtain ⟨x, hx, hu⟩ := opt_some.1 hu
      obtain ⟨hfr, hu⟩ := cond_some.1 hu
      injection hu with hu; subst hu
      obtain ⟨ι', M', k1, k2, k3, k4, k5⟩ := key _ x.1 x.2 hx hfr
      have hlen := (resSV_spec rs _ 0 ds x.1 x.2 hx).2.2.2.1
      have : oneSV x.1 = .tup x.1 := by
        cases hx1 : x.1 with
        | nil => rfl
        | cons s r =>
          cases r with
          | nil =>
            exfalso
            rw [hx1] at hlen
            cases rs with
            | nil => simp at hlen
            | cons r rs =>
              cases rs with
              | nil => exact hne r rfl
              | cons _ _ => simp at hlen
          | cons _ _ => rfl
      rw [this] at k3 k5
      exact ⟨rfl, ⟨ι', M', k1, k2, k3⟩, rfl, k4, k5⟩

end Go.Proofs.YtcmeincdmphaoaaDoor.DS

namespace Go.Proofs.YtcmeincdmphaoaaDoor.DS

section
variable {P : Program} {E : Env} {X : Nat → Prop} {w0 w w' : World} {Mx : Mem} {pv : Nat → Option Value} {ops : List Oper} {done : Nat → Prop} {st : St} {a : Act} {draw : Bool}

theorem chain_mem (hg : guardsOk ops draw = true) (hcl : ∀ i o j w, done i → nthOp ops i = some o → o.guard = some (j, w) → done j) :
    ∀ n k o, k < n → nthOp ops k = some o → (∀ j w, o.guard = some (j, w) → done j) → ∀ p ∈ chainOf ops k, ∃ j oj, done j ∧ nthOp ops j = some oj ∧ oj.dst = some p.1 := by
  intro n
  induction n with
  | zero => intro k o h; omega
  | succ n ih =>
    intro k o hk ho hd p hp
    cases hgd : o.guard with
    | none => rw [chain_none ho hgd] at hp; cases hp
    | some g =>
      obtain ⟨j, w⟩ := g
      obtain ⟨oj, t, hj, ht, hlt, hc, _⟩ := guards_spec hg ho hgd
      rw [hc] at hp
      rcases List.mem_cons.1 hp with rfl | hp
      · exact ⟨j, oj, hd j w hgd, hj, ht⟩
      · exact ih j oj (by omega) hj (fun j' w' h' => hcl j oj j' w' (hd j w hgd) hj h') p hp

/-- A step of a region. -/
theorem ri_step (hn : nodupN (dstsOf ops) = true) (hg : guardsOk ops draw = true) {i : Nat} {o : Oper} (hi : nthOp ops i = some o) (hnd : ¬ done i) (hdep : ∀ j w, o.guard = some (j, w) → done j)
    {ι : Nat → Value} {M : Mem} (hs : ∀ t s, st.slots t = some s → (∀ i o, done i → nthOp ops i = some o → o.dst = some t → HoldsL a (chainOf ops i)) → SVRel E.tt ι M s (a.eval (.tmp t)))
    (hgi : ∀ i o t b, done i → nthOp ops i = some o → o.dst = some t → a.eval (.tmp t) = .bool b → HoldsL a (chainOf ops i))
    (hcl : ∀ i o j w, done i → nthOp ops i = some o → o.guard = some (j, w) → done j)
    (hsz : a.tmps.size = st.n) (hdf : a.defers = []) (hpin : ∀ p v, pv p = some v → a.eval (.tmp p) = v) (hpd : ∀ t, o.dst = some t → pv t = none)
    {s st' : St} {v : SV} {u : Value} (hl : ∃ ι' M', HRel E.tt X w0 Mx ι' M' s.objs w' ∧ (∀ t s1, s.slots t = some s1 → ∃ s0, st.slots t = some s0 ∧ ∀ v0, SVRel E.tt ι M s0 v0 → SVRel E.tt ι' M' s1 v0) ∧ (HoldsL a (chainOf ops i) → SVRel E.tt ι' M' v u))
    (hsn : s.n = st.n) (hwf : WF s) (hvr : ∀ i, i ∈ refsOf v → ∃ o, s.objs i = some o) (hub : ∀ b, u = .bool b → HoldsL a (chainOf ops i)) (hput : putSlot s o.dst v = some st') :
    RI E X w0 Mx pv ops (fun k => done k ∨ k = i) st' (a.put o.dst u) w' := by
  have hne : ∀ j oj t, done j → nthOp ops j = some oj → oj.dst = some t → o.dst ≠ some t := by
    intro j oj t hj hoj ht e
    have := dst_unique hn hoj hi ht e
    subst this; exact hnd hj
  have hchain : ∀ k ok, (done k ∨ k = i) → nthOp ops k = some ok → (HoldsL (a.put o.dst u) (chainOf ops k) ↔ HoldsL a (chainOf ops k)) := by
    intro k ok hk hok
    have hd : ∀ j w, ok.guard = some (j, w) → done j := by
      rcases hk with hk | rfl
      · exact fun j w h => hcl k ok j w hk hok h
      · rw [hi] at hok; injection hok with hok; subst hok; exact hdep
    have hm := chain_mem hg hcl (k + 1) k ok (by omega) hok hd
    have : ∀ p ∈ chainOf ops k, (a.put o.dst u).eval (.tmp p.1) = a.eval (.tmp p.1) := by
      intro p hp
      obtain ⟨j, oj, h1, h2, h3⟩ := hm p hp
      exact eval_put_other (hne j oj p.1 h1 h2 h3)
    constructor
    · intro h p hp; rw [← this p hp]; exact h p hp
    · intro h p hp; rw [this p hp]; exact h p hp
  have hst' : st'.n = s.n ∧ st'.objs = s.objs ∧ (∀ t, o.dst ≠ some t → st'.slots t = s.slots t) ∧ (∀ t, o.dst = some t → st'.slots t = some v ∧ t < s.n) := by
    unfold putSlot at hput
    split at hput
    · rename_i hd
      injection hput with hput; subst hput
      exact ⟨rfl, rfl, fun _ _ => rfl, fun t h => by rw [hd] at h; cases h⟩
    · rename_i d hd
      obtain ⟨hb, hput⟩ := cond_some.1 hput
      injection hput with hput; subst hput
      refine ⟨rfl, rfl, fun t h => put_other _ _ _ (fun e => h (by rw [hd, e])), fun t h => ?_⟩
      rw [hd] at h; injection h with h; subst h
      exact ⟨put_same _ _ _, Nat.le_of_ble_eq_true hb⟩
  obtain ⟨e1, e2, e3, e4⟩ := hst'
  obtain ⟨ι', M', H', hslots, hv⟩ := hl
  refine ⟨⟨ι', M', by rw [e2]; exact H', ?_⟩, ?_, ?_, ?_, ?_, ?_, fun p v hp => by
    rw [eval_put_other (fun e => by have := hpd p e; rw [hp] at this; cases this)]; exact hpin p v hp⟩
  · intro t s1 hs1 hcond
    by_cases ht : o.dst = some t
    · obtain ⟨h1, h2⟩ := e4 t ht
      rw [h1] at hs1; injection hs1 with hs1; subst hs1
      rw [ht, eval_put_same (by rw [hsz, ← hsn]; exact h2)]
      exact hv ((hchain i o (.inr rfl) hi).1 (hcond i o (.inr rfl) hi ht))
    · rw [e3 t ht] at hs1
      obtain ⟨s0, h0, h1⟩ := hslots t s1 hs1
      rw [eval_put_other ht]
      refine h1 _ (hs t s0 h0 fun j oj hj hoj hjt => ?_)
      exact (hchain j oj (.inl hj) hoj).1 (hcond j oj (.inl hj) hoj hjt)
  · intro j oj t b hj hoj hjt hb
    rw [hchain j oj hj hoj]
    rcases hj with hj | rfl
    · rw [eval_put_other (hne j oj t hj hoj hjt)] at hb
      exact hgi j oj t b hj hoj hjt hb
    · rw [hi] at hoj; injection hoj with hoj; subst hoj
      obtain ⟨_, h2⟩ := e4 t hjt
      rw [hjt, eval_put_same (by rw [hsz, ← hsn]; exact h2)] at hb
      exact hub b hb
  · intro k ok j w hk hok hgd
    rcases hk with hk | rfl
    · exact .inl (hcl k ok j w hk hok hgd)
    · rw [hi] at hok; injection hok with hok; subst hok
      exact .inl (hdep j w hgd)
  · constructor
    · intro t s1 hs1 j hj
      rw [e2]
      by_cases ht : o.dst = some t
      · rw [(e4 t ht).1] at hs1; injection hs1 with hs1; subst hs1; exact hvr j hj
      · rw [e3 t ht] at hs1; exact hwf.slots t s1 hs1 j hj
    · intro j ob hj k hk
      rw [e2] at hj ⊢
      exact hwf.cells j ob hj k hk
  · rw [size_put, hsz, e1, hsn]
  · rw [defers_put]; exact hdf

end
end Go.Proofs.YtcmeincdmphaoaaDoor.DS

namespace Go.Proofs.YtcmeincdmphaoaaDoor.DS

theorem nodupL_iff {l : List Nat} : nodupL l = true ↔ l.Nodup := by
  induction l with
  | nil => simp [nodupL]
  | cons x r ih =>
    simp only [nodupL, List.nodup_cons]
    cases h : memN x r with
    | true => simp [memN_iff.1 h]
    | false => simp [ih, memN_false h]
theorem lk_app {α : Type} {i : Nat} {l m : List (Nat × α)} : lk i (l ++ m) = match lk i l with | some x => some x | none => lk i m := by
  induction l with
  | nil => rfl
  | cons p r ih =>
    obtain ⟨t, x⟩ := p
    simp only [List.cons_append, lk]
    cases h : Nat.beq i t with
    | true => rfl
    | false => simp only [cond_false]; exact ih
theorem omap_some {α β : Type} {f : α → β} {x : Option α} {b : β} : omap f x = some b ↔ ∃ a, x = some a ∧ b = f a := by
  cases x with
  | none => simp [omap]
  | some a => simp [omap, eq_comm]

section
variable {tt : TT} {X : Nat → Prop} {w0 w : World} {Mx : Mem} {ι : Nat → Value} {M : Mem}

/-- What is left of a state whose row has been handed over. -/
structure Dropped (tt : TT) (X : Nat → Prop) (w0 : World) (Mx : Mem) (ι : Nat → Value) (M : Mem) (w : World) (rows : List Nat) (st st' : St) : Prop where
  rel : HRel tt X w0 Mx ι M st'.objs w
  wf : WF st'
  n : st'.n = st.n
  slots : ∀ t s1, st'.slots t = some s1 → ∃ s0, st.slots t = some s0 ∧ ∀ v0, SVRel tt ι M s0 v0 → SVRel tt ι M s1 v0
  there : ∀ i o', st'.objs i = some o' → i ∉ rows ∧ ∃ o, st.objs i = some o
  kept : ∀ i, i ∉ rows → (∃ o, st.objs i = some o) → ∃ o, st'.objs i = some o

theorem drop_one {st : St} (H : HRel tt X w0 Mx ι M st.objs w) (hwf : WF st) (id : Nat) : Dropped tt X w0 Mx ι M w [id] st (st.dropRow id) := by
  have hobj : ∀ i o', (st.dropRow id).objs i = some o' → i ≠ id ∧ ∃ o, st.objs i = some o ∧ o' = scrubObj id o := by
    intro i o' h
    by_cases hi : i = id
    · subst hi; simp [St.dropRow, put_same] at h
    · simp only [St.dropRow, put_other _ _ _ hi] at h
      exact ⟨hi, omap_some.1 h⟩
  have hin : ∀ i o, i ≠ id → st.objs i = some o → ∃ o', (st.dropRow id).objs i = some o' := by
    intro i o hi ho
    exact ⟨scrubObj id o, by simp only [St.dropRow, put_other _ _ _ hi, ho, omap]⟩
  refine ⟨⟨?_, ?_, ?_, H.mem, H.memx, H.memB, H.os, H.tape, H.output, H.size, H.keep⟩, ⟨?_, ?_⟩, rfl, ?_, ?_, ?_⟩
  · intro i o' h
    obtain ⟨hi, o, ho, rfl⟩ := hobj i o' h
    have := (H.obj i o ho).scrub (id := id) (x := ι id) hi (fun _ _ => rfl)
    rwa [put_self] at this
  · intro i j oi oj b hi hj hij hbi hbj
    obtain ⟨_, o1, h1, _⟩ := hobj i oi hi
    obtain ⟨_, o2, h2, _⟩ := hobj j oj hj
    exact H.disj i j o1 o2 b h1 h2 hij hbi hbj
  · intro i o' b h hb
    obtain ⟨_, o, ho, _⟩ := hobj i o' h
    exact H.own i o b ho hb
  · intro t s h i hi
    obtain ⟨s0, h0, rfl⟩ := omap_some.1 (show omap (scrubS id) (st.slots t) = some s from h)
    obtain ⟨h1, h2⟩ := refs_scrub hi
    obtain ⟨o, ho⟩ := hwf.slots t s0 h0 i h1
    exact hin i o h2 ho
  · intro j o' h i hi
    obtain ⟨_, o, ho, rfl⟩ := hobj j o' h
    obtain ⟨h1, h2⟩ := refs_scrubObj hi
    obtain ⟨o2, ho2⟩ := hwf.cells j o ho i h1
    exact hin i o2 h2 ho2
  · intro t s1 h
    obtain ⟨s0, h0, rfl⟩ := omap_some.1 (show omap (scrubS id) (st.slots t) = some s1 from h)
    refine ⟨s0, h0, fun v0 hv => ?_⟩
    have := hv.scrub id (ι id)
    rwa [put_self] at this
  · intro i o' h
    obtain ⟨hi, o, ho, _⟩ := hobj i o' h
    exact ⟨by simpa using hi, o, ho⟩
  · intro i hi ⟨o, ho⟩
    exact hin i o (by simpa using hi) ho
theorem drop_all : ∀ (rows : List Nat) {st : St}, HRel tt X w0 Mx ι M st.objs w → WF st → Dropped tt X w0 Mx ι M w rows st (dropRows rows st) := by
  intro rows
  induction rows with
  | nil => intro st H hwf; exact ⟨H, hwf, rfl, fun t s1 h => ⟨s1, h, fun _ h => h⟩, fun i o h => ⟨by simp, o, h⟩, fun i _ h => h⟩
  | cons id r ih =>
    intro st H hwf
    have h1 := drop_one H hwf id
    have h2 := ih h1.rel h1.wf
    refine ⟨h2.rel, h2.wf, h2.n.trans h1.n, ?_, ?_, ?_⟩
    · intro t s1 h
      obtain ⟨s0, q1, q2⟩ := h2.slots t s1 h
      obtain ⟨s, q3, q4⟩ := h1.slots t s0 q1
      exact ⟨s, q3, fun v0 hv => q2 v0 (q4 v0 hv)⟩
    · intro i o' h
      obtain ⟨q1, o, q2⟩ := h2.there i o' h
      obtain ⟨q3, o2, q4⟩ := h1.there i o q2
      refine ⟨?_, o2, q4⟩
      intro hi
      rcases List.mem_cons.1 hi with rfl | hi
      · exact q3 (by simp)
      · exact q1 hi
    · intro i hi ho
      exact h2.kept i (fun h => hi (List.mem_cons_of_mem _ h)) (h1.kept i (fun h => hi (by simp at h; subst h; exact List.mem_cons_self)) ho)

/-- The caller's objects and what came back of those that were handed over. -/
theorem HRel.merge2 {w' : World} {M' : Mem} {ι2 : Nat → Value} {objs : Nat → Option Obj} {os : List (Nat × Obj)} {hs : List Nat} {Xh : Nat → Prop} (H : HRel tt X w0 Mx ι M objs w)
    (R : HRel tt Xh w M ι2 M' (fun i => lk i os) w') (hXo : ∀ b, Xh b → w0.heap.size ≤ b ∨ X b) (hXd : ∀ b, Xh b → ∀ i o, objs i = some o → i ∉ hs → blockOf (ι i) ≠ some b)
    (hf : ∀ i o, lk i os = some o → i ∈ hs ∨ objs i = none) (hall : ∀ i, i ∈ hs → ∃ o, lk i os = some o) (hbox : ∀ i, i ∈ hs → ι2 i = ι i)
    (hcells : ∀ j o, objs j = some o → ∀ i, i ∈ objRefs0 o → ∃ o', objs i = some o') (hos : ∀ j o, lk j os = some o → ∀ i, i ∈ objRefs0 o → ∃ o', lk i os = some o') :
    HRel tt X w0 Mx (joinι os ι ι2) M' (putAll objs os) w' ∧ ∀ i, (∃ o, objs i = some o) → joinι os ι ι2 i = ι i := by
  have hcase : ∀ i o, putAll objs os i = some o → (lk i os = some o ∧ joinι os ι ι2 i = ι2 i) ∨ (lk i os = none ∧ objs i = some o ∧ joinι os ι ι2 i = ι i ∧ i ∉ hs) := by
    intro i o h
    rw [putAll_eq] at h
    unfold joinι
    cases hl : lk i os with
    | some o' => rw [hl] at h; injection h with h; subst h; exact .inl ⟨rfl, rfl⟩
    | none =>
      rw [hl] at h
      refine .inr ⟨rfl, h, rfl, fun hi => ?_⟩
      obtain ⟨o', ho'⟩ := hall i hi
      rw [hl] at ho'; cases ho'
  have hold : ∀ i, (∃ o, objs i = some o) → joinι os ι ι2 i = ι i := by
    intro i ⟨o, h⟩
    unfold joinι
    cases hl : lk i os with
    | some o' =>
      rcases hf i o' hl with hi | hi
      · exact hbox i hi
      · rw [hi] at h; cases h
    | none => rfl
  have hin : ∀ i o, lk i os = some o → joinι os ι ι2 i = ι2 i := by
    intro i o h; unfold joinι; rw [h]
  have hkeep : ∀ b, b < w.heap.size → ¬ Xh b → w'.heap[b]? = w.heap[b]? := fun b hb hx => R.keep b hb hx
  refine ⟨⟨?_, ?_, ?_, R.mem, fun ad v h => R.memx ad v (H.memx ad v h), ?_, R.os.trans H.os, R.tape.trans H.tape, R.output.trans H.output, Nat.le_trans H.size R.size, ?_⟩, hold⟩
  · intro i o ho
    rcases hcase i o ho with ⟨h1, h2⟩ | ⟨_, h1, h2, h3⟩
    · exact (R.obj i o h1).congr h2 (fun j hj => by obtain ⟨o', ho'⟩ := hos i o h1 j hj; exact hin j o' ho') (fun _ _ h => h) (fun _ _ => rfl)
    · refine (H.obj i o h1).congr h2 (fun j hj => hold j (hcells i o h1 j hj)) R.memx (fun b hb => hkeep b ((H.obj i o h1).block_lt hb) (fun hx => hXd b hx i o h1 h3 hb))
  · intro i j oi oj b hi hj hij hbi hbj
    have hmix : ∀ i j oi oj, lk i os = some oi → objs j = some oj → j ∉ hs → blockOf (ι2 i) = some b → blockOf (ι j) ≠ some b := by
      intro i j oi oj h1 h3 h5 hbi hbj
      rcases (R.own i oi b h1 hbi).1 with h | h
      · have := (H.obj j oj h3).block_lt hbj; omega
      · exact hXd b h j oj h3 h5 hbj
    rcases hcase i oi hi with ⟨h1, h2⟩ | ⟨_, h1, h2, h5⟩ <;> rcases hcase j oj hj with ⟨h3, h4⟩ | ⟨_, h3, h4, h6⟩
    · rw [h2] at hbi; rw [h4] at hbj; exact R.disj i j oi oj b h1 h3 hij hbi hbj
    · rw [h2] at hbi; rw [h4] at hbj; exact hmix i j oi oj h1 h3 h6 hbi hbj
    · rw [h2] at hbi; rw [h4] at hbj; exact hmix j i oj oi h3 h1 h5 hbj hbi
    · rw [h2] at hbi; rw [h4] at hbj; exact H.disj i j oi oj b h1 h3 hij hbi hbj
  · intro i o b hi hb
    rcases hcase i o hi with ⟨h1, h2⟩ | ⟨_, h1, h2, h3⟩
    · rw [h2] at hb
      obtain ⟨q1, q2⟩ := R.own i o b h1 hb
      refine ⟨?_, q2⟩
      rcases q1 with q1 | q1
      · exact .inl (Nat.le_trans H.size q1)
      · exact hXo b q1
    · rw [h2] at hb
      obtain ⟨q1, q2⟩ := H.own i o b h1 hb
      refine ⟨q1, fun off sp => ?_⟩
      have hlt := (H.obj i o h1).block_lt hb
      rw [R.memB ⟨b, off, sp⟩ hlt (fun hx => hXd b hx i o h1 h3 hb)]
      exact q2 off sp
  · intro ad hb hX
    have hnx : ¬ Xh ad.block := fun hx => by
      rcases hXo _ hx with h | h
      · omega
      · exact hX h
    rw [R.memB ad (Nat.lt_of_lt_of_le hb H.size) hnx]
    exact H.memB ad hb hX
  · intro b hb hX
    have hnx : ¬ Xh b := fun hx => by
      rcases hXo _ hx with h | h
      · omega
      · exact hX h
    rw [hkeep b (Nat.lt_of_lt_of_le hb H.size) hnx]
    exact H.keep b hb hX
end
end Go.Proofs.YtcmeincdmphaoaaDoor.DS
