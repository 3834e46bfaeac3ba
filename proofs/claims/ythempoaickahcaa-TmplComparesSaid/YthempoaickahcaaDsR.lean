/- Regions whose order is open: operations that change places; what is named stays there. -/
import Derived.Test.YthempoaickahcaaDsQ
set_option linter.unusedVariables false
set_option linter.unusedSimpArgs false
namespace Go.Proofs.Ythempoaickahcaa.DS

/-- What operation i of a region would do. -/
def evalU (E : Env) (callk : Nat → List D → R) (ops : List Oper) (draw : Bool) (i : Nat) (st : St) : Option (Option Nat × Upd) :=
  match nthOp ops i with
  | none => none
  | some o => match chainOf ops i with
    | [] => match opO E draw st ops [] o with
      | some (.sv c v) => cond c (some (o.dst, ⟨v, none, []⟩)) none
      | some (.ob c id ob scr v) => cond c (some (o.dst, ⟨v, some (id, ob, scr), []⟩)) none
      | some (.call f ds rs) => cond (!draw || allValR rs) (opt (callk f ds) fun r => opt (resUpd st rs o.dst r) fun u => some (o.dst, u)) none
      | none => none
    | p :: L => cond (guardsThere st (p :: L)) (match opO E draw st ops (p :: L) o with
      | some (.sv c v) => cond (c || !guardB st (p :: L)) (some (o.dst, ⟨v, none, []⟩)) none
      | some (.call f ds rs) => cond (allValR rs) (opt (cond (guardB st (p :: L)) (callk f ds) (some [])) fun r => opt (resUpd st rs o.dst r) fun u => some (o.dst, u)) none
      | _ => none) none

theorem opt_opt {α β γ : Type} (x : Option α) (f : α → Option β) (g : β → Option γ) : opt (opt x f) g = opt x fun a => opt (f a) g := by
  cases x <;> rfl
theorem opt_cond {α β : Type} (c : Bool) (x : Option α) (f : α → Option β) : opt (cond c x none) f = cond c (opt x f) none := by
  cases c <;> rfl

theorem opK_eq {α : Type} (E : Env) (callk : Nat → List D → R) (ops : List Oper) (draw : Bool) (i : Nat) (st : St) (K : St → Option α) :
    opK E callk ops draw i st K = opt (evalU E callk ops draw i st) fun p => opt (applyU st p.1 p.2) K := by
  unfold opK evalU
  cases nthOp ops i with
  | none => rfl
  | some o =>
    simp only
    cases chainOf ops i with
    | nil =>
      simp only
      cases opO E draw st ops [] o with
      | none => rfl
      | some out =>
        cases out with
        | sv c v => simp only [opt_cond, opt_val]
        | ob c id ob scr v => simp only [opt_cond, opt_val]
        | call f ds rs => simp only [opt_cond, opt_opt, opt_val]
    | cons p L =>
      simp only [opt_cond]
      cases opO E draw st ops (p :: L) o with
      | none => rfl
      | some out =>
        cases out with
        | sv c v =>
          simp only [opt_cond, opt_val]
        | ob c id ob scr v => rfl
        | call f ds rs => simp only [opt_cond, opt_opt, opt_val]

/-- What is named is there. -/
theorem constSV_refs {v : Value} {s : SV} (h : constSV v = some s) : refsOf s = [] := by
  unfold constSV at h
  split at h
  · injection h with h; subst h; rfl
  · have := (cond_some.1 h).2; injection this with this; subst this; rfl
  · have := (cond_some.1 h).2; injection this with this; subst this; rfl
  · injection h with h; subst h; rfl
  · cases h

section
variable {E : Env} {draw : Bool} {st st' : St} {ops : List Oper} {L : List (Nat × Bool)} (hwf : WF st)

def There (st : St) (s : SV) : Prop := ∀ i, i ∈ refsOf s → ∃ ob, st.objs i = some ob
theorem There.val (st : St) (k : KT) (d : D) : There st (.val k d) := fun i hi => by cases hi
include hwf in
theorem ev_there {x : Operand} {s : SV} (h : ev st ops L x = some s) : There st s := by
  intro i hi
  obtain ⟨t, _, hts⟩ := ev_refs h hi
  exact hwf.slots t s hts i hi

theorem intOp_val {op : BinOp} {k : IntKind} {x y : Int} {c : Bool} {v : SV} (h : intOp op k x y = some (.sv c v)) : There st v := by
  unfold intOp at h; cases op <;> first | (cases h; done) | (injection h with h; injection h with h1 h2; subst h2; exact There.val _ _ _)
theorem shiftOp_val {op : BinOp} {k : IntKind} {x y : Int} {c : Bool} {v : SV} (h : shiftOp op k x y = some (.sv c v)) : There st v := by
  unfold shiftOp at h; cases op <;> first | (cases h; done) | (injection h with h; injection h with h1 h2; subst h2; exact There.val _ _ _)
theorem strOp_val {op : BinOp} {x y : List UInt8} {c : Bool} {v : SV} (h : strOp op x y = some (.sv c v)) : There st v := by
  unfold strOp at h; cases op <;> first | (cases h; done) | (injection h with h; injection h with h1 h2; subst h2; exact There.val _ _ _)
theorem boolOp_val {op : BinOp} {x y : Bool} {c : Bool} {v : SV} (h : boolOp op x y = some (.sv c v)) : There st v := by
  unfold boolOp at h; cases op <;> first | (cases h; done) | (injection h with h; injection h with h1 h2; subst h2; exact There.val _ _ _)

include hwf in
theorem boxLoad_there {id : Nat} {u : TypeId} {ui : TI} {c : BC} (hob : st.objs id = some (.box u c)) {off : Nat} {k : KT} {v : SV} (h : boxLoad E.tt u ui c off k = some v) : There st v := by
  cases c with
  | whole d =>
    simp only [boxLoad] at h
    revert h
    generalize (Nat.beq off 0 && _) = b
    intro h
    cases b <;> (injection h with h; subst h; exact There.val _ _ _)
  | cells l =>
    have hcell : ∀ (j : Nat) (s : SV), l[j]? = some s → ∀ i, i ∈ refs0 s → ∃ ob, st.objs i = some ob := fun j s hj i hi => hwf.cells id _ hob i (mem_refsL.2 ⟨s, List.mem_of_getElem? hj, hi⟩)
    have key : ∀ k', (match l[off]? with | some (.val k'' d) => cond (KT.eq k' k'') (some (SV.val k' d)) none | some (.tup _) => none | some s => some s | none => none) = some v → There st v := by
      intro k' h
      cases hl : l[off]? with
      | none => rw [hl] at h; cases h
      | some s =>
        rw [hl] at h
        have hc := hcell off s hl
        cases s with
        | val k2 d => have := (cond_some.1 h).2; injection this with this; subst this; exact There.val _ _ _
        | tup t => cases h
        | _ => injection h with h; subst h; exact hc
    cases k with
    | agg q =>
      simp only [boxLoad] at h
      cases hq : lk q E.tt with
      | none => rw [hq] at h; cases h
      | some tu =>
        rw [hq] at h
        simp only [Option.map_eq_some_iff] at h
        obtain ⟨ds, _, rfl⟩ := h
        exact There.val _ _ _
    | _ => exact key _ h

theorem moveO_there {x : Operand} {t : TypeId} {c : Bool} {v : SV} (hwf : WF st) (h : moveO E st ops L x t = some (.sv c v)) : There st v := by
  unfold moveO at h
  split at h
  · replace h := opt_some.1 h
    obtain ⟨ti, _, h⟩ := h
    split at h
    · replace h := opt_some.1 h
      obtain ⟨ds, _, h⟩ := h
      injection h with h; injection h with h1 h2; subst h2; exact There.val _ _ _
    · cases h
  · replace h := opt_some.1 h
    obtain ⟨s, hs, h⟩ := h
    injection h with h; injection h with h1 h2; subst h2
    exact ev_there hwf hs

include hwf in
theorem sv_there {o : Oper} {c : Bool} {v : SV} (h : opO E draw st ops L o = some (.sv c v)) : There st v := by
  unfold opO at h
  split at h
  case h_1 x hx => exact moveO_there hwf h
  case h_2 x hx => exact moveO_there hwf h
  case h_3 x y z hx =>
    unfold pickO at h
    replace h := opt_some.1 h
    obtain ⟨tc, _, h⟩ := h
    replace h := opt_some.1 h
    obtain ⟨sc, _, h⟩ := h
    split at h
    · split at h
      · replace h := (cond_some.1 h).2
        split at h
        · revert h
          generalize (sameTmp tc y) = b1
          generalize (sameTmp tc z) = b2
          intro h
          cases b1 <;> cases b2 <;> (injection h with h; injection h with h1 h2; subst h2; exact There.val _ _ _)
        · injection h with h; injection h with h1 h2; subst h2; exact There.val _ _ _
      · cases h
    · cases h
  case h_4 t hx =>
    unfold allocO at h
    replace h := opt_some.1 h
    obtain ⟨ti, _, h⟩ := h
    exact (withObj_sv h).elim
  case h_5 t x hx =>
    unfold boxO at h
    replace h := opt_some.1 h
    obtain ⟨ti, _, h⟩ := h
    replace h := opt_some.1 h
    obtain ⟨s, _, h⟩ := h
    split at h
    all_goals
      replace h := opt_some.1 h
      obtain ⟨d, _, h⟩ := h
      exact (withObj_sv h).elim
  case h_6 t ps hx =>
    unfold buildO at h
    replace h := opt_some.1 h
    obtain ⟨_, _, h⟩ := h
    split at h
    · replace h := opt_some.1 h
      obtain ⟨_, _, h⟩ := h
      injection h with h; injection h with h1 h2; subst h2; exact There.val _ _ _
    · cases h
  case h_7 t n ps hx =>
    unfold buildSliceO at h
    replace h := opt_some.1 h
    obtain ⟨ti, _, h⟩ := h
    split at h
    · replace h := opt_some.1 h
      obtain ⟨ei, _, h⟩ := h
      replace h := opt_some.1 h
      obtain ⟨ds, _, h⟩ := h
      replace h := cond_some.1 h
      exact (withObj_sv h.2).elim
    · cases h
  case h_8 t x hx =>
    unfold loadO at h
    replace h := opt_some.1 h
    obtain ⟨_, _, h⟩ := h
    replace h := opt_some.1 h
    obtain ⟨_, _, h⟩ := h
    split at h
    · replace h := (cond_some.1 h).2
      injection h with h; injection h with h1 h2; subst h2; exact There.val _ _ _
    · replace h := (cond_some.1 h).2
      split at h
      · rename_i u c' hob
        replace h := (cond_some.1 h).2
        replace h := opt_some.1 h
        obtain ⟨ui, _, h⟩ := h
        replace h := opt_some.1 h
        obtain ⟨v', hv', h⟩ := h
        injection h with h; injection h with h1 h2; subst h2
        exact boxLoad_there hwf hob hv'
      · cases h
    · replace h := (cond_some.1 h).2
      split at h
      · replace h := (cond_some.1 h).2
        replace h := opt_some.1 h
        obtain ⟨_, _, h⟩ := h
        revert h
        generalize (Nat.beq _ _ && _) = b1
        intro h
        cases b1 <;> (injection h with h; injection h with h1 h2; subst h2; exact There.val _ _ _)
      · cases h
    · cases h
  case h_9 t x y hx =>
    exfalso
    unfold storeO at h
    replace h := opt_some.1 h
    obtain ⟨ti, _, h⟩ := h
    replace h := opt_some.1 h
    obtain ⟨s, _, h⟩ := h
    replace h := opt_some.1 h
    obtain ⟨s', _, h⟩ := h
    split at h
    · replace h := cond_some.1 h
      replace h := h.2
      split at h
      · replace h := cond_some.1 h
        replace h := h.2
        replace h := opt_some.1 h
        obtain ⟨ui, _, h⟩ := h
        replace h := opt_some.1 h
        obtain ⟨c', _, h⟩ := h
        cases h
      · cases h
    · replace h := cond_some.1 h
      replace h := h.2
      replace h := opt_some.1 h
      obtain ⟨d, _, h⟩ := h
      split at h
      · replace h := cond_some.1 h
        replace h := h.2
        replace h := opt_some.1 h
        obtain ⟨c', _, h⟩ := h
        revert h
        generalize (Nat.beq _ _ && _) = b1
        generalize (isAggK _) = b2
        intro h
        cases b1 <;> cases b2 <;> cases h
      · cases h
    · cases h
  case h_10 op t x y yt hx =>
    replace h := opt_some.1 h
    obtain ⟨s1, hs1, h⟩ := h
    replace h := opt_some.1 h
    obtain ⟨s2, hs2, h⟩ := h
    unfold binO at h
    split at h
    · revert h
      generalize (isShift op) = b1
      intro h
      cases b1 with
      | true => exact shiftOp_val h
      | false => exact intOp_val (cond_some.1 h).2
    · exact strOp_val h
    · split at h
      · exact boolOp_val (cond_some.1 h).2
      · cases h
    · cases h
  case h_11 op t x hx =>
    replace h := opt_some.1 h
    obtain ⟨s1, hs1, h⟩ := h
    unfold unO at h
    split at h
    · injection h with h; injection h with h1 h2; subst h2; exact There.val _ _ _
    · injection h with h; injection h with h1 h2; subst h2; exact There.val _ _ _
    · cases h
  case h_12 s t x hx =>
    unfold convertO at h
    replace h := opt_some.1 h
    obtain ⟨si, hsi, h⟩ := h
    replace h := opt_some.1 h
    obtain ⟨ti, hti, h⟩ := h
    replace h := opt_some.1 h
    obtain ⟨s1, hs1, h⟩ := h
    split at h
    · injection h with h; injection h with h1 h2; subst h2; exact There.val _ _ _
    · injection h with h; injection h with h1 h2; subst h2; exact There.val _ _ _
    · replace h := opt_some.1 (cond_some.1 h).2
      obtain ⟨_, _, h⟩ := h
      replace h := (cond_some.1 h).2
      injection h with h; injection h with h1 h2; subst h2; exact There.val _ _ _
    · split at h
      · replace h := opt_some.1 (cond_some.1 h).2
        obtain ⟨_, _, h⟩ := h
        replace h := (cond_some.1 h).2
        injection h with h; injection h with h1 h2; subst h2; exact There.val _ _ _
      · cases h
    · replace h := opt_some.1 h
      obtain ⟨_, _, h⟩ := h
      replace h := (cond_some.1 h).2
      injection h with h; injection h with h1 h2; subst h2; exact There.val _ _ _
    · replace h := opt_some.1 h
      obtain ⟨ei, hei, h⟩ := h
      exact (withObj_sv (cond_some.1 h).2).elim
    · cases h
  case h_13 t x y hx =>
    unfold makeSliceO at h
    replace h := opt_some.1 h
    obtain ⟨ti, _, h⟩ := h
    replace h := opt_some.1 h
    obtain ⟨n, _, h⟩ := h
    replace h := opt_some.1 h
    obtain ⟨m, _, h⟩ := h
    split at h
    · replace h := opt_some.1 h
      obtain ⟨ei, _, h⟩ := h
      split at h
      · cases h
      · exact (withObj_sv (cond_some.1 h).2).elim
    · cases h
  case h_14 t x lo hi mx hx =>
    unfold sliceO at h
    split at h
    · cases h
    · replace h := opt_some.1 h
      obtain ⟨ti, _, h⟩ := h
      replace h := opt_some.1 h
      obtain ⟨s, _, h⟩ := h
      replace h := opt_some.1 h
      obtain ⟨l, _, h⟩ := h
      replace h := opt_some.1 h
      obtain ⟨hh, _, h⟩ := h
      split at h
      · injection h with h; injection h with h1 h2; subst h2; exact There.val _ _ _
      · replace h := (cond_some.1 h).2
        injection h with h; injection h with h1 h2; subst h2; exact There.val _ _ _
      · cases draw with
        | true => cases h
        | false =>
          simp only [cond_false] at h
          split at h
          · replace h := (cond_some.1 h).2; cases h
          · cases h
      · cases h
  case h_15 t x f hx =>
    unfold fieldAddrO at h
    replace h := opt_some.1 h
    obtain ⟨_, _, h⟩ := h
    replace h := opt_some.1 h
    obtain ⟨_, _, h⟩ := h
    replace h := opt_some.1 h
    obtain ⟨_, _, h⟩ := h
    replace h := (cond_some.1 h).2
    replace h := opt_some.1 h
    obtain ⟨s, hs, h⟩ := h
    have ht := ev_there hwf hs
    split at h
    · replace h := (cond_some.1 h).2; injection h with h; injection h with h1 h2; subst h2; intro i hi; cases hi
    · replace h := (cond_some.1 h).2; injection h with h; injection h with h1 h2; subst h2; exact ht
    · replace h := (cond_some.1 h).2; injection h with h; injection h with h1 h2; subst h2; exact ht
    · cases h
  case h_16 t x y hx =>
    unfold indexAddrO at h
    replace h := opt_some.1 h
    obtain ⟨_, _, h⟩ := h
    replace h := opt_some.1 h
    obtain ⟨s, hs, h⟩ := h
    have ht := ev_there hwf hs
    replace h := opt_some.1 h
    obtain ⟨_, _, h⟩ := h
    split at h
    · replace h := (cond_some.1 h).2
      replace h := opt_some.1 h
      obtain ⟨_, _, h⟩ := h
      injection h with h; injection h with h1 h2; subst h2; intro i hi; cases hi
    · split at h
      · replace h := (cond_some.1 h).2
        replace h := opt_some.1 h
        obtain ⟨_, _, h⟩ := h
        injection h with h; injection h with h1 h2; subst h2; exact ht
      · cases h
    · cases h
  case h_17 t x y hx =>
    unfold indexO at h
    replace h := opt_some.1 h
    obtain ⟨_, _, h⟩ := h
    replace h := opt_some.1 h
    obtain ⟨_, _, h⟩ := h
    replace h := opt_some.1 h
    obtain ⟨_, _, h⟩ := h
    split at h
    · injection h with h; injection h with h1 h2; subst h2; exact There.val _ _ _
    · cases h
  case h_18 x hx =>
    replace h := opt_some.1 h
    obtain ⟨s, hs, h⟩ := h
    have ht := ev_there hwf hs
    split at h
    all_goals first | (cases h; done) | (injection h with h; injection h with h1 h2; subst h2; exact ht)
  case h_19 x i hx =>
    replace h := opt_some.1 h
    obtain ⟨s, hs, h⟩ := h
    have ht := ev_there hwf hs
    split at h
    · rename_i l
      split at h
      · cases h
      · rename_i v' hnt hv'
        injection h with h; injection h with h1 h2; subst h2
        intro i hi
        refine ht i (mem_refsL.2 ⟨_, List.mem_of_getElem? hv', ?_⟩)
        cases v' with
        | tup t => exact absurd rfl (hnt t)
        | _ => exact hi
      · cases h
    · cases h
  case h_20 cl hx =>
    unfold callO at h
    split at h
    · replace h := opt_some.1 h
      obtain ⟨sg, _, h⟩ := h
      replace h := opt_some.1 h
      obtain ⟨ds, _, h⟩ := h
      cases h
    · split at h
      · unfold lenO at h
        replace h := opt_some.1 h
        obtain ⟨_, _, h⟩ := h
        replace h := opt_some.1 h
        obtain ⟨_, _, h⟩ := h
        split at h
        · injection h with h; injection h with h1 h2; subst h2; exact There.val _ _ _
        · injection h with h; injection h with h1 h2; subst h2; exact There.val _ _ _
        · injection h with h; injection h with h1 h2; subst h2; exact There.val _ _ _
        · split at h
          · injection h with h; injection h with h1 h2; subst h2; exact There.val _ _ _
          · cases h
        · cases h
      · cases h
    · exfalso
      split at h
      · unfold appendO at h
        replace h := opt_some.1 h
        obtain ⟨ti, _, h⟩ := h
        replace h := opt_some.1 h
        obtain ⟨xi, _, h⟩ := h
        replace h := opt_some.1 h
        obtain ⟨s1, _, h⟩ := h
        replace h := opt_some.1 h
        obtain ⟨s2, _, h⟩ := h
        split at h
        · replace h := opt_some.1 h
          obtain ⟨ei, _, h⟩ := h
          replace h := cond_some.1 h
          replace h := h.2
          replace h := opt_some.1 h
          obtain ⟨ds, _, h⟩ := h
          split at h
          · exact (withObj_sv h).elim
          · split at h
            · revert h
              generalize Nat.beq _ _ = bb
              intro h
              cases bb with
              | true => cases h
              | false =>
                simp only [cond_false] at h
                split at h
                · replace h := cond_some.1 h
                  replace h := h.2
                  cases h
                · cases h
            · split at h
              · replace h := cond_some.1 h
                replace h := h.2
                cases h
              · cases h
          · cases h
        · cases h
      · cases h
    all_goals first | (cases h; done) | (
      unfold mmO at h
      split at h
      · cases h
      · replace h := opt_some.1 h
        obtain ⟨_, _, h⟩ := h
        split at h
        · replace h := opt_some.1 h
          obtain ⟨_, _, h⟩ := h
          injection h with h; injection h with h1 h2; subst h2; exact There.val _ _ _
        · cases h)
  case h_21 => cases h

end
end Go.Proofs.Ythempoaickahcaa.DS
