/- Regions whose order is open: operations that change places; what is named stays there. -/
import Derived.Test.YtjofkhdnidjleabDoorDsQ
set_option linter.unusedVariables false
set_option linter.unusedSimpArgs false
namespace Go.Proofs.YtjofkhdnidjleabDoor.DS

/-- What operation i of a region would do. -/
def evalU (E : Env) (callk : Nat → List D → R) (ops : List Oper) (draw : Bool) (i : Nat) (st : St) : Option (Option Nat × Upd) :=
  match nthOp ops i with
  | none => none
  | some o => match chainOf ops i with
    | [] => match opO E draw st ops [] o with
      | some (.sv c v) => cond c (some (o.dst, ⟨v, none, []⟩)) none
      | some (.ob c id ob scr v) => cond c (some (o.dst, ⟨v, some (id, ob, scr), []⟩)) none
      | some (.call f ds rs) => cond (!draw || allValR rs) (opt (callk f ds) fun r => opt (resUpd st rs o.dst r) fun u => some (o.dst, u)) none
      | _ => none
    | p :: L => cond (guardsThere st (p :: L)) (match opO E draw st ops (p :: L) o with
      | some (.sv c v) => cond (c || !guardB st (p :: L)) (some (o.dst, ⟨v, none, []⟩)) none
      | some (.call f ds rs) => cond (allValR rs) (opt (cond (guardB st (p :: L)) (callk f ds) (some [])) fun r => opt (resUpd st rs o.dst r) fun u => some (o.dst, u)) none
      | _ => none) none

theorem opt_opt {α β γ : Type} (x : Option α) (f : α → Option β) (g : β → Option γ) : opt (opt x f) g = opt x fun a => opt (f a) g := by
  cases x <;> rfl
theorem opt_cond {α β : Type} (c : Bool) (x : Option α) (f : α → Option β) : opt (cond c x none) f = cond c (opt x f) none := by
  cases c <;> rfl

/-- Is operation i a call to which boxes or rows are handed over? -/
def isH (E : Env) (ops : List Oper) (draw : Bool) (i : Nat) (st : St) : Bool :=
  match nthOp ops i with
  | none => false
  | some o => match chainOf ops i with
    | [] => match opO E draw st ops [] o with
      | some (.hcall _ _ _ _ _) => true
      | _ => false
    | _ => false
theorem opK_eq {α : Type} (E : Env) (callk : Nat → List D → R) (ops : List Oper) (draw : Bool) (i : Nat) (st : St) (K : St → Option α) (hd : draw = true ∨ isH E ops draw i st = false) :
    opK E callk ops draw i st K = opt (evalU E callk ops draw i st) fun p => opt (applyU st p.1 p.2) K := by
  unfold isH at hd
  unfold opK evalU
  cases hnth : nthOp ops i with
  | none => rfl
  | some o =>
    rw [hnth] at hd
    simp only at hd ⊢
    cases hch : chainOf ops i with
    | nil =>
      rw [hch] at hd
      simp only at hd ⊢
      cases hop : opO E draw st ops [] o with
      | none => rfl
      | some out =>
        rw [hop] at hd
        cases out with
        | hcall f ds sg rows boxes =>
          rcases hd with hd | hd
          · subst hd; rfl
          · cases hd
        | sv c v => simp only [opt_cond, opt_val]
        | ob c id ob scr v => simp only [opt_cond, opt_val]
        | call f ds rs => simp only [opt_cond, opt_opt, opt_val]
    | cons p L =>
      simp only [opt_cond]
      cases opO E draw st ops (p :: L) o with
      | none => rfl
      | some out =>
        cases out with
        | sv c v =>
          simp only [opt_cond, opt_val]
        | ob c id ob scr v => rfl
        | hcall _ _ _ _ _ => rfl
        | call f ds rs => simp only [opt_cond, opt_opt, opt_val]

/-- What is named is there. -/
theorem constSV_refs {v : Value} {s : SV} (h : constSV v = some s) : refsOf s = [] := by
  unfold constSV at h
  split at h
  · injection h with h; subst h; rfl
  · have := (cond_some.1 h).2; injection this with this; subst this; rfl
  · have := (cond_some.1 h).2; injection this with this; subst this; rfl
  · injection h with h; subst h; rfl
  · injection h with h; subst h; rfl
  · cases h

theorem opK_eqT {α : Type} (E : Env) (callk : Nat → List D → R) (ops : List Oper) (i : Nat) (st : St) (K : St → Option α) :
    opK E callk ops true i st K = opt (evalU E callk ops true i st) fun p => opt (applyU st p.1 p.2) K := opK_eq E callk ops true i st K (.inl rfl)

section
variable {E : Env} {draw : Bool} {st st' : St} {ops : List Oper} {L : List (Nat × Bool)} (hwf : WF st)

def There (st : St) (s : SV) : Prop := ∀ i, i ∈ refsOf s → ∃ ob, st.objs i = some ob
theorem There.val (st : St) (k : KT) (d : D) : There st (.val k d) := fun i hi => by cases hi
include hwf in
theorem ev_there {x : Operand} {s : SV} (h : ev st ops L x = some s) : There st s := by
  intro i hi
  obtain ⟨t, _, hts⟩ := ev_refs h hi
  exact hwf.slots t s hts i hi

theorem intOp_val {op : BinOp} {k : IntKind} {x y : Int} {c : Bool} {v : SV} (h : intOp op k x y = some (.sv c v)) : There st v := by
  unfold intOp at h; cases op <;> first | (cases h; done) | (injection h with h; injection h with h1 h2; subst h2; exact There.val _ _ _)
theorem shiftOp_val {op : BinOp} {k : IntKind} {x y : Int} {c : Bool} {v : SV} (h : shiftOp op k x y = some (.sv c v)) : There st v := by
  unfold shiftOp at h; cases op <;> first | (cases h; done) | (injection h with h; injection h with h1 h2; subst h2; exact There.val _ _ _)
theorem strOp_val {op : BinOp} {x y : List UInt8} {c : Bool} {v : SV} (h : strOp op x y = some (.sv c v)) : There st v := by
  unfold strOp at h; cases op <;> first | (cases h; done) | (injection h with h; injection h with h1 h2; subst h2; exact There.val _ _ _)
theorem boolOp_val {op : BinOp} {x y : Bool} {c : Bool} {v : SV} (h : boolOp op x y = some (.sv c v)) : There st v := by
  unfold boolOp at h; cases op <;> first | (cases h; done) | (injection h with h; injection h with h1 h2; subst h2; exact There.val _ _ _)

include hwf in
theorem boxLoad_there {id : Nat} {u : TypeId} {ui : TI} {c : BC} (hob : st.objs id = some (.box u c)) {off : Nat} {k : KT} {v : SV} (h : boxLoad E.tt u ui c off k = some v) : There st v := by
  cases c with
  | whole d =>
    simp only [boxLoad] at h
    revert h
    generalize (Nat.beq off 0 && _) = b
    intro h
    cases b <;> (injection h with h; subst h; exact There.val _ _ _)
  | cells l =>
    have hcell : ∀ (j : Nat) (s : SV), l[j]? = some s → ∀ i, i ∈ refs0 s → ∃ ob, st.objs i = some ob := fun j s hj i hi => hwf.cells id _ hob i (mem_refsL.2 ⟨s, List.mem_of_getElem? hj, hi⟩)
    have key : ∀ k', (match l[off]? with | some (.val k'' d) => cond (KT.eq k' k'') (some (SV.val k' d)) none | some (.tup _) => none | some (.sag _ _ _) => none | some s => some s | none => none) = some v → There st v := by
      intro k' h
      cases hl : l[off]? with
      | none => rw [hl] at h; cases h
      | some s =>
        rw [hl] at h
        have hc := hcell off s hl
        cases s with
        | val k2 d => have := (cond_some.1 h).2; injection this with this; subst this; exact There.val _ _ _
        | tup t => cases h
        | sag _ _ _ => cases h
        | _ => injection h with h; subst h; exact hc
    cases k with
    | agg q =>
      simp only [boxLoad] at h
      cases hq : lk q E.tt with
      | none => rw [hq] at h; cases h
      | some tu =>
        rw [hq] at h
        simp only [Option.map_eq_some_iff] at h
        obtain ⟨ds, _, rfl⟩ := h
        exact There.val _ _ _
    | _ => exact key _ h

theorem moveO_there {x : Operand} {t : TypeId} {c : Bool} {v : SV} (hwf : WF st) (h : moveO E st ops L x t = some (.sv c v)) : There st v := by
  unfold moveO at h
  split at h
  · replace h := opt_some.1 h
    obtain ⟨ti, _, h⟩ := h
    split at h
    · replace h := opt_some.1 h
      obtain ⟨ds, _, h⟩ := h
      injection h with h; injection h with h1 h2; subst h2; exact There.val _ _ _
    · cases h
  · replace h := opt_some.1 h
    obtain ⟨s, hs, h⟩ := h
    injection h with h; injection h with h1 h2; subst h2
    exact ev_there hwf hs

theorem zeroSB_refs (ks : List KT) : ∀ s ∈ ks.map zeroSB, refs0 s = [] := by
  intro s hs
  obtain ⟨k, _, rfl⟩ := List.mem_map.1 hs
  cases k <;> rfl
theorem expand_refs1 (ks : List KT) (d : D) : ∀ i, ∀ s ∈ expand ks d i, refs0 s = [] := by
  induction ks with
  | nil => intro i s hs; cases hs
  | cons k r ih =>
    intro i s hs
    rcases List.mem_cons.1 hs with rfl | hs
    · rfl
    · exact ih _ s hs
theorem setSVs_mem (xs : List SV) : ∀ (cs : List SV) (off : Nat) (s : SV), s ∈ setSVs cs off xs → s ∈ cs ∨ s ∈ xs := by
  induction xs with
  | nil => intro cs off s h; exact .inl h
  | cons x r ih =>
    intro cs off s h
    rcases ih _ _ s h with h | h
    · rcases List.mem_or_eq_of_mem_set h with h | rfl
      · exact .inl h
      · exact .inr List.mem_cons_self
    · exact .inr (List.mem_cons_of_mem _ h)
theorem partS_refs {fi : TI} {s : SV} {l : List SV} (h : partS fi s = some l) : ∀ x ∈ l, ∀ i, i ∈ refs0 x → i ∈ refsOf s := by
  intro x hx i hi
  unfold partS at h
  split at h
  · split at h
    · replace h := (cond_some.1 h).2
      injection h with h; subst h
      exact mem_refsL.2 ⟨x, hx, hi⟩
    · replace h := (cond_some.1 h).2
      injection h with h; subst h
      rw [expand_refs1 _ _ _ x hx] at hi; cases hi
    · cases h
  · split at h
    · injection h with h; subst h; simp at hx; subst hx; cases hi
    · injection h with h; subst h; simp at hx; subst hx; exact hi
    · replace h := (cond_some.1 h).2
      injection h with h; subst h; simp at hx; subst hx; cases hi
    · cases h
  · split at h
    · replace h := (cond_some.1 h).2
      injection h with h; subst h; simp at hx; subst hx; cases hi
    · cases h
include hwf in
theorem fillS_there {fields : List (Nat × TypeId)} (ps : List (Nat × Operand)) : ∀ (cs cs' : List SV), (∀ s ∈ cs, ∀ i, i ∈ refs0 s → ∃ ob, st.objs i = some ob) → fillS E st ops L fields ps cs = some cs' → ∀ s ∈ cs', ∀ i, i ∈ refs0 s → ∃ ob, st.objs i = some ob := by
  induction ps with
  | nil => intro cs cs' h hf; injection hf with hf; subst hf; exact h
  | cons p r ih =>
    obtain ⟨j, x⟩ := p
    intro cs cs' h hf
    simp only [fillS] at hf
    obtain ⟨ft, _, hf⟩ := opt_some.1 hf
    obtain ⟨fi, _, hf⟩ := opt_some.1 hf
    obtain ⟨s0, hs0, hf⟩ := opt_some.1 hf
    obtain ⟨l, hl, hf⟩ := opt_some.1 hf
    refine ih _ _ (fun s hs i hi => ?_) hf
    rcases setSVs_mem _ _ _ s hs with hs | hs
    · exact h s hs i hi
    · exact ev_there hwf hs0 i (partS_refs hl s hs i hi)
include hwf in
theorem build_there {t : TypeId} {ps : List (Nat × Operand)} {c : Bool} {v : SV} (h : buildO E st ops L t ps = some (.sv c v)) : There st v := by
  unfold buildO at h
  replace h := opt_some.1 h
  obtain ⟨ti, _, h⟩ := h
  split at h
  · generalize anySlice ti.cells = q at h
    cases q with
    | true =>
      replace h := opt_some.1 h
      obtain ⟨l, hl, h⟩ := h
      generalize allVal l = q at h
      cases q with
      | true =>
        replace h := opt_some.1 h
        obtain ⟨d, _, h⟩ := h
        injection h with h; injection h with h1 h2; subst h2; exact There.val _ _ _
      | false =>
        injection h with h; injection h with h1 h2; subst h2
        intro i hi
        obtain ⟨s, hs, hi⟩ := mem_refsL.1 hi
        exact fillS_there hwf ps _ _ (fun s hs i hi => by rw [zeroSB_refs _ s hs] at hi; cases hi) hl s hs i hi
    | false =>
      replace h := opt_some.1 h
      obtain ⟨cs, _, h⟩ := h
      injection h with h; injection h with h1 h2; subst h2; exact There.val _ _ _
  · cases h

theorem fieldO_there {t : TypeId} {x : Operand} {f : Nat} {c : Bool} {v : SV} (h : fieldO E st ops L t x f = some (.sv c v)) : There st v := by
  unfold fieldO at h
  obtain ⟨ti, ht, h⟩ := opt_some.1 h
  obtain ⟨ft, hft, h⟩ := opt_some.1 h
  obtain ⟨fi, hfi, h⟩ := opt_some.1 h
  obtain ⟨hn, h⟩ := cond_some.1 h
  obtain ⟨s, hs, h⟩ := opt_some.1 h
  split at h
  · have := (cond_some.1 h).2
    injection this with h; injection h with h1 h2; subst h2; exact There.val _ _ _
  · cases h
include hwf in
theorem sv_there {o : Oper} {c : Bool} {v : SV} (h : opO E draw st ops L o = some (.sv c v)) : There st v := by
  unfold opO at h
  split at h
  case h_1 x hx => exact moveO_there hwf h
  case h_2 x hx => exact moveO_there hwf h
  case h_3 x y z hx =>
    unfold pickO at h
    replace h := opt_some.1 h
    obtain ⟨tc, _, h⟩ := h
    replace h := opt_some.1 h
    obtain ⟨sc, _, h⟩ := h
    split at h
    · split at h
      · replace h := (cond_some.1 h).2
        split at h
        · revert h
          generalize (sameTmp tc y) = b1
          generalize (sameTmp tc z) = b2
          intro h
          cases b1 <;> cases b2 <;> (injection h with h; injection h with h1 h2; subst h2; exact There.val _ _ _)
        · injection h with h; injection h with h1 h2; subst h2; exact There.val _ _ _
      · cases h
    · cases h
  case h_4 t hx =>
    unfold allocO at h
    replace h := opt_some.1 h
    obtain ⟨ti, _, h⟩ := h
    exact (withObj_sv h).elim
  case h_5 t x hx =>
    unfold boxO at h
    replace h := opt_some.1 h
    obtain ⟨ti, _, h⟩ := h
    replace h := opt_some.1 h
    obtain ⟨s, _, h⟩ := h
    replace h := opt_some.1 h
    obtain ⟨d, _, h⟩ := h
    exact (withObj_sv h).elim
  case h_6 t ps hx => exact build_there hwf h
  case h_7 t n ps hx =>
    unfold buildSliceO at h
    replace h := opt_some.1 h
    obtain ⟨ti, _, h⟩ := h
    split at h
    · replace h := opt_some.1 h
      obtain ⟨ei, _, h⟩ := h
      replace h := opt_some.1 h
      obtain ⟨ds, _, h⟩ := h
      replace h := cond_some.1 h
      exact (withObj_sv h.2).elim
    · cases h
  case h_8 t x hx =>
    unfold loadO at h
    replace h := opt_some.1 h
    obtain ⟨_, _, h⟩ := h
    replace h := opt_some.1 h
    obtain ⟨_, _, h⟩ := h
    split at h
    · replace h := (cond_some.1 h).2
      injection h with h; injection h with h1 h2; subst h2; exact There.val _ _ _
    · replace h := (cond_some.1 h).2
      split at h
      · rename_i u c' hob
        replace h := (cond_some.1 h).2
        replace h := opt_some.1 h
        obtain ⟨ui, _, h⟩ := h
        replace h := opt_some.1 h
        obtain ⟨v', hv', h⟩ := h
        injection h with h; injection h with h1 h2; subst h2
        exact boxLoad_there hwf hob hv'
      · cases h
    · replace h := (cond_some.1 h).2
      split at h
      · replace h := (cond_some.1 h).2
        replace h := opt_some.1 h
        obtain ⟨_, _, h⟩ := h
        revert h
        generalize (Nat.beq _ _ && _) = b1
        intro h
        cases b1 <;> (injection h with h; injection h with h1 h2; subst h2; exact There.val _ _ _)
      · cases h
    · cases h
  case h_9 t x y hx =>
    exfalso
    unfold storeO at h
    replace h := opt_some.1 h
    obtain ⟨ti, _, h⟩ := h
    replace h := opt_some.1 h
    obtain ⟨s, _, h⟩ := h
    replace h := opt_some.1 h
    obtain ⟨s', _, h⟩ := h
    split at h
    · replace h := cond_some.1 h
      replace h := h.2
      split at h
      · replace h := cond_some.1 h
        replace h := h.2
        replace h := opt_some.1 h
        obtain ⟨ui, _, h⟩ := h
        replace h := opt_some.1 h
        obtain ⟨c', _, h⟩ := h
        cases h
      · cases h
    · replace h := cond_some.1 h
      replace h := h.2
      replace h := opt_some.1 h
      obtain ⟨d, _, h⟩ := h
      split at h
      · replace h := cond_some.1 h
        replace h := h.2
        replace h := opt_some.1 h
        obtain ⟨c', _, h⟩ := h
        revert h
        generalize (Nat.beq _ _ && _) = b1
        generalize (isAggK _) = b2
        intro h
        cases b1 <;> cases b2 <;> cases h
      · cases h
    · cases h
  case h_10 op t x y yt hx =>
    replace h := opt_some.1 h
    obtain ⟨s1, hs1, h⟩ := h
    replace h := opt_some.1 h
    obtain ⟨s2, hs2, h⟩ := h
    unfold binO at h
    split at h
    · revert h
      generalize (isShift op) = b1
      intro h
      cases b1 with
      | true => exact shiftOp_val h
      | false => exact intOp_val (cond_some.1 h).2
    · exact strOp_val h
    · split at h
      · exact boolOp_val (cond_some.1 h).2
      · cases h
    · cases h
  case h_11 op t x hx =>
    replace h := opt_some.1 h
    obtain ⟨s1, hs1, h⟩ := h
    unfold unO at h
    split at h
    · injection h with h; injection h with h1 h2; subst h2; exact There.val _ _ _
    · injection h with h; injection h with h1 h2; subst h2; exact There.val _ _ _
    · cases h
  case h_12 s t x hx =>
    unfold convertO at h
    replace h := opt_some.1 h
    obtain ⟨si, hsi, h⟩ := h
    replace h := opt_some.1 h
    obtain ⟨ti, hti, h⟩ := h
    replace h := opt_some.1 h
    obtain ⟨s1, hs1, h⟩ := h
    split at h
    · injection h with h; injection h with h1 h2; subst h2; exact There.val _ _ _
    · injection h with h; injection h with h1 h2; subst h2; exact There.val _ _ _
    · replace h := opt_some.1 (cond_some.1 h).2
      obtain ⟨_, _, h⟩ := h
      replace h := (cond_some.1 h).2
      injection h with h; injection h with h1 h2; subst h2; exact There.val _ _ _
    · split at h
      · replace h := opt_some.1 (cond_some.1 h).2
        obtain ⟨_, _, h⟩ := h
        replace h := (cond_some.1 h).2
        injection h with h; injection h with h1 h2; subst h2; exact There.val _ _ _
      · cases h
    · replace h := opt_some.1 h
      obtain ⟨_, _, h⟩ := h
      replace h := (cond_some.1 h).2
      injection h with h; injection h with h1 h2; subst h2; exact There.val _ _ _
    · replace h := opt_some.1 h
      obtain ⟨ei, hei, h⟩ := h
      exact (withObj_sv (cond_some.1 h).2).elim
    · cases h
  case h_13 t x y hx =>
    unfold makeSliceO at h
    replace h := opt_some.1 h
    obtain ⟨ti, _, h⟩ := h
    replace h := opt_some.1 h
    obtain ⟨n, _, h⟩ := h
    replace h := opt_some.1 h
    obtain ⟨m, _, h⟩ := h
    split at h
    · replace h := opt_some.1 h
      obtain ⟨ei, _, h⟩ := h
      split at h
      · cases h
      · cases h
      · exact (withObj_sv (cond_some.1 h).2).elim
    · cases h
  case h_14 t x lo hi mx hx =>
    unfold sliceO at h
    split at h
    · cases h
    · replace h := opt_some.1 h
      obtain ⟨ti, _, h⟩ := h
      replace h := opt_some.1 h
      obtain ⟨s, _, h⟩ := h
      replace h := opt_some.1 h
      obtain ⟨l, _, h⟩ := h
      replace h := opt_some.1 h
      obtain ⟨hh, _, h⟩ := h
      split at h
      · injection h with h; injection h with h1 h2; subst h2; exact There.val _ _ _
      · replace h := (cond_some.1 h).2
        injection h with h; injection h with h1 h2; subst h2; exact There.val _ _ _
      · cases draw with
        | true => cases h
        | false =>
          simp only [cond_false] at h
          split at h
          · replace h := (cond_some.1 h).2; cases h
          · cases h
      · cases h
  case h_15 t x f hx =>
    unfold fieldAddrO at h
    replace h := opt_some.1 h
    obtain ⟨_, _, h⟩ := h
    replace h := opt_some.1 h
    obtain ⟨_, _, h⟩ := h
    replace h := opt_some.1 h
    obtain ⟨_, _, h⟩ := h
    replace h := (cond_some.1 h).2
    replace h := opt_some.1 h
    obtain ⟨s, hs, h⟩ := h
    have ht := ev_there hwf hs
    split at h
    · replace h := (cond_some.1 h).2; injection h with h; injection h with h1 h2; subst h2; intro i hi; cases hi
    · replace h := (cond_some.1 h).2; injection h with h; injection h with h1 h2; subst h2; exact ht
    · replace h := (cond_some.1 h).2; injection h with h; injection h with h1 h2; subst h2; exact ht
    · cases h
  case h_16 t x y hx =>
    unfold indexAddrO at h
    replace h := opt_some.1 h
    obtain ⟨_, _, h⟩ := h
    replace h := opt_some.1 h
    obtain ⟨s, hs, h⟩ := h
    have ht := ev_there hwf hs
    replace h := opt_some.1 h
    obtain ⟨_, _, h⟩ := h
    split at h
    · replace h := (cond_some.1 h).2
      replace h := opt_some.1 h
      obtain ⟨_, _, h⟩ := h
      injection h with h; injection h with h1 h2; subst h2; intro i hi; cases hi
    · split at h
      · replace h := (cond_some.1 h).2
        replace h := opt_some.1 h
        obtain ⟨_, _, h⟩ := h
        injection h with h; injection h with h1 h2; subst h2; exact ht
      · cases h
    · cases h
  case h_17 t x y hx =>
    unfold indexO at h
    replace h := opt_some.1 h
    obtain ⟨_, _, h⟩ := h
    replace h := opt_some.1 h
    obtain ⟨_, _, h⟩ := h
    replace h := opt_some.1 h
    obtain ⟨_, _, h⟩ := h
    split at h
    · injection h with h; injection h with h1 h2; subst h2; exact There.val _ _ _
    · cases h
  case h_18 x hx =>
    replace h := opt_some.1 h
    obtain ⟨s, hs, h⟩ := h
    have ht := ev_there hwf hs
    split at h
    all_goals first | (cases h; done) | (injection h with h; injection h with h1 h2; subst h2; exact ht)
  case h_19 x i hx =>
    replace h := opt_some.1 h
    obtain ⟨s, hs, h⟩ := h
    have ht := ev_there hwf hs
    split at h
    · rename_i l
      split at h
      · cases h
      · cases h
      · rename_i v' hnt hns hv'
        injection h with h; injection h with h1 h2; subst h2
        intro i hi
        refine ht i (mem_refsL.2 ⟨_, List.mem_of_getElem? hv', ?_⟩)
        cases v' with
        | tup t => exact absurd rfl (hnt t)
        | sag t ks l => exact absurd rfl (hns t ks l)
        | _ => exact hi
      · cases h
    · cases h
  case h_20 cl hx =>
    unfold callO at h
    split at h
    · replace h := opt_some.1 h
      obtain ⟨sg, _, h⟩ := h
      rcases callF_out h with ⟨_, _, h⟩ | ⟨_, _, _, h⟩ <;> cases h
    · split at h
      · unfold lenO at h
        replace h := opt_some.1 h
        obtain ⟨_, _, h⟩ := h
        replace h := opt_some.1 h
        obtain ⟨_, _, h⟩ := h
        split at h
        · injection h with h; injection h with h1 h2; subst h2; exact There.val _ _ _
        · injection h with h; injection h with h1 h2; subst h2; exact There.val _ _ _
        · injection h with h; injection h with h1 h2; subst h2; exact There.val _ _ _
        · split at h
          · injection h with h; injection h with h1 h2; subst h2; exact There.val _ _ _
          · cases h
        · cases h
      · cases h
    · exfalso
      split at h
      · unfold appendO at h
        replace h := opt_some.1 h
        obtain ⟨ti, _, h⟩ := h
        replace h := opt_some.1 h
        obtain ⟨xi, _, h⟩ := h
        replace h := opt_some.1 h
        obtain ⟨s1, _, h⟩ := h
        replace h := opt_some.1 h
        obtain ⟨s2, _, h⟩ := h
        split at h
        · replace h := opt_some.1 h
          obtain ⟨ei, _, h⟩ := h
          replace h := cond_some.1 h
          replace h := h.2
          replace h := opt_some.1 h
          obtain ⟨ds, _, h⟩ := h
          split at h
          · exact (withObj_sv h).elim
          · split at h
            · revert h
              generalize Nat.beq _ _ = bb
              intro h
              cases bb with
              | true => cases h
              | false =>
                simp only [cond_false] at h
                split at h
                · replace h := cond_some.1 h
                  replace h := h.2
                  cases h
                · cases h
            · split at h
              · replace h := cond_some.1 h
                replace h := h.2
                cases h
              · cases h
          · cases h
        · cases h
      · cases h
    all_goals first | (cases h; done) | (obtain ⟨_, _, _, _, _, _, _, _, _, h⟩ := clo_out h; cases h; done) | (
      unfold mmO at h
      split at h
      · cases h
      · replace h := opt_some.1 h
        obtain ⟨_, _, h⟩ := h
        split at h
        · replace h := opt_some.1 h
          obtain ⟨_, _, h⟩ := h
          injection h with h; injection h with h1 h2; subst h2; exact There.val _ _ _
        · cases h)
  case h_21 f fs cs hx =>
    obtain ⟨_, x, id, u, k, _, _, h3, h4⟩ := mkf_out h
    injection h4 with h4 h5
    subst h5
    exact fun i hi => ev_there hwf h3 i hi
  case h_22 t x f hx => exact fieldO_there h
  case h_23 => cases h

end
end Go.Proofs.YtjofkhdnidjleabDoor.DS
