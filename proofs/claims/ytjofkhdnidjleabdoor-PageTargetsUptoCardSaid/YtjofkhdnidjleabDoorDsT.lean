/- Operations that may change places do so: the theorem, and a region's order. -/
import Derived.Test.YtjofkhdnidjleabDoorDsS
set_option linter.unusedVariables false
set_option linter.unusedSimpArgs false
namespace Go.Proofs.YtjofkhdnidjleabDoor.DS

section
variable {E : Env} {callk : Nat → List D → R} {st st' : St} {ops : List Oper}

structure UFact (st : St) (o : Oper) (p : Option Nat × Upd) : Prop where
  dst : p.1 = o.dst
  obs : p.2.obs = []
  vrefs : ∀ i, i ∈ refsOf p.2.v → (∃ ob, st.objs i = some ob) ∨ ∃ x, p.2.ob = some (i, x)
  ob : ∀ id ob scr, p.2.ob = some (id, ob, scr) → ObFact st o id ob scr p.2.v

theorem evalU_fact (hwf : WF st) {i : Nat} {o : Oper} (hi : nthOp ops i = some o) (hall : (opEff o).all = false) {p : Option Nat × Upd} (h : evalU E callk ops true i st = some p) : UFact st o p := by
  unfold evalU at h
  rw [hi] at h
  simp only at h
  have hres : ∀ {rs r}, allValR rs = true → (opt (resUpd st rs o.dst r) fun u => some (o.dst, u)) = some p → UFact st o p := by
    intro rs r h1 h2
    obtain ⟨v, hv, hr⟩ := resUpd_vals h1 o.dst r
    rw [hv st] at h2
    injection h2 with h2; subst h2
    exact ⟨rfl, rfl, (fun i hi => by rw [show refsOf (o.dst, (⟨v, none, []⟩ : Upd)).2.v = [] from hr] at hi; cases hi), fun _ _ _ h => by cases h⟩
  cases hc : chainOf ops i with
  | nil =>
    rw [hc] at h
    simp only at h
    cases ho : opO E true st ops [] o with
    | none => rw [ho] at h; cases h
    | some out =>
      rw [ho] at h
      cases out with
      | sv c v =>
        replace h := (cond_some.1 h).2
        injection h with h; subst h
        exact ⟨rfl, rfl, fun i hi => .inl (sv_there hwf ho i hi), fun _ _ _ h => by cases h⟩
      | ob c id ob scr v =>
        replace h := (cond_some.1 h).2
        injection h with h; subst h
        have hf := ob_fact hwf hall ho
        exact ⟨rfl, rfl, fun i hi => .inr ⟨(ob, scr), by have := hf.vrefs i hi; subst this; rfl⟩, fun _ _ _ h => by injection h with h; injection h with h1 h; injection h with h2 h3; subst h1 h2 h3; exact hf⟩
      | call f ds rs =>
        replace h := cond_some.1 h
        obtain ⟨hv, h⟩ := h
        replace h := opt_some.1 h
        obtain ⟨r, _, h⟩ := h
        exact hres (by simpa using hv) h
      | hcall _ _ _ _ _ => cases h
  | cons q L =>
    rw [hc] at h
    simp only at h
    replace h := (cond_some.1 h).2
    cases ho : opO E true st ops (q :: L) o with
    | none => rw [ho] at h; cases h
    | some out =>
      rw [ho] at h
      cases out with
      | sv c v =>
        replace h := (cond_some.1 h).2
        injection h with h; subst h
        exact ⟨rfl, rfl, fun i hi => .inl (sv_there hwf ho i hi), fun _ _ _ h => by cases h⟩
      | ob c id ob scr v => cases h
      | call f ds rs =>
        replace h := cond_some.1 h
        obtain ⟨hv, h⟩ := h
        replace h := opt_some.1 h
        obtain ⟨r, _, h⟩ := h
        exact hres hv h
      | hcall _ _ _ _ _ => cases h

theorem guardB_congr : ∀ (L : List (Nat × Bool)), (∀ p ∈ L, st'.slots p.1 = st.slots p.1) → guardB st' L = guardB st L := by
  intro L
  induction L with
  | nil => intro _; rfl
  | cons p r ih =>
    intro h
    obtain ⟨t, w⟩ := p
    have h1 := h (t, w) List.mem_cons_self
    have h2 := ih (fun q hq => h q (List.mem_cons_of_mem _ hq))
    cases r with
    | nil => simp only [guardB, h1]
    | cons q r => simp only [guardB] at h2 ⊢; simp only [h1, h2]
theorem guardsThere_congr : ∀ (L : List (Nat × Bool)), (∀ p ∈ L, st'.slots p.1 = st.slots p.1) → guardsThere st' L = guardsThere st L := by
  intro L
  induction L with
  | nil => intro _; rfl
  | cons p r ih =>
    intro h
    obtain ⟨t, w⟩ := p
    have h1 := h (t, w) List.mem_cons_self
    have h2 := ih (fun q hq => h q (List.mem_cons_of_mem _ hq))
    simp only [guardsThere, h1, h2]

theorem evalU_congr {i : Nat} {o : Oper} (hi : nthOp ops i = some o) (hall : (opEff o).all = false) (hs : ∀ t, t ∈ usesOf ops i → st'.slots t = st.slots t) (hf : ∀ d, o.dst = some d → fresh st' d = fresh st d)
    (ho : (opEff o).reads = true ∨ (opEff o).writes = true → ∀ t s, t ∈ usesOf ops i → st.slots t = some s → ∀ i, i ∈ refsOf s → st'.objs i = st.objs i) :
    evalU E callk ops true i st' = evalU E callk ops true i st := by
  have hu : ∀ t, t ∈ opdsUses o.op.operands.toList → t ∈ usesOf ops i := by
    intro t ht; unfold usesOf; rw [hi]; exact List.mem_append_left _ ht
  have hg : ∀ p ∈ chainOf ops i, st'.slots p.1 = st.slots p.1 := by
    intro p hp
    refine hs p.1 ?_
    unfold usesOf; rw [hi]; exact List.mem_append_right _ (List.mem_map_of_mem hp)
  have hO : ∀ L, opO E true st' ops L o = opO E true st ops L o := fun L => opO_congr o hall (fun t ht => hs t (hu t ht)) hf (fun hrw t s ht => ho hrw t s (hu t ht))
  unfold evalU
  rw [hi]
  simp only
  cases hc : chainOf ops i with
  | nil =>
    simp only [hO]
    cases hoo : opO E true st ops [] o with
    | none => rfl
    | some out =>
      cases out with
      | sv c v => rfl
      | ob c id ob scr v => rfl
      | hcall _ _ _ _ _ => rfl
      | call f ds rs =>
        simp only
        cases hv2 : allValR rs with
        | false => rfl
        | true =>
          have : ∀ r, resUpd st' rs o.dst r = resUpd st rs o.dst r := fun r => by
            obtain ⟨v, hv, _⟩ := resUpd_vals hv2 o.dst r
            rw [hv st', hv st]
          simp only [this]
  | cons q L =>
    rw [hc] at hg
    simp only [hO, guardsThere_congr _ hg, guardB_congr _ hg]
    cases hoo : opO E true st ops (q :: L) o with
    | none => rfl
    | some out =>
      cases out with
      | sv c v => rfl
      | ob c id ob scr v => rfl
      | hcall _ _ _ _ _ => rfl
      | call f ds rs =>
        simp only
        cases hv2 : allValR rs with
        | false => rfl
        | true =>
          have : ∀ r, resUpd st' rs o.dst r = resUpd st rs o.dst r := fun r => by
            obtain ⟨v, hv, _⟩ := resUpd_vals hv2 o.dst r
            rw [hv st', hv st]
          simp only [this]

end
end Go.Proofs.YtjofkhdnidjleabDoor.DS
