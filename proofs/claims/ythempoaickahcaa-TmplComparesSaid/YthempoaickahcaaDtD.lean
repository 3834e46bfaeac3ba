/- Runs in memory. -/
import Derived.Test.YthempoaickahcaaDtC
set_option linter.unusedVariables false
set_option linter.unusedSimpArgs false
namespace Go.Proofs.Ythempoaickahcaa.DS

section
variable {P : Program} {E : Env}

def resultVal (us : List Value) : Value := match us with | [u] => u | l => .tuple l.toArray

theorem run_results {fn : Func} {tmps : Array Value} (h : ∀ rv ∈ fn.results.toList, ∃ t, rv = .tmp t) (w : World) : (results fn tmps).run P w = .ok (resultVal (fn.results.toList.map (resVal tmps))) w := by
  have key : ∀ (l : List ResultVar), (∀ rv ∈ l, ∃ t, rv = .tmp t) → (l.mapM (m := Sem) fun rv => match rv with
      | .tmp t => pure (tmps.getD t undef)
      | .cell a t => do loadVar t (← asAddr (tmps.getD a undef))).run P w = .ok (l.map (resVal tmps)) w := by
    intro l
    induction l with
    | nil => intro _; simp
    | cons x r ih =>
      intro h
      obtain ⟨t, rfl⟩ := h x List.mem_cons_self
      simp only [List.mapM_cons, Sem.run_bind, Sem.run_pure, Result.andThen_ok, ih (fun rv hrv => h rv (List.mem_cons_of_mem _ hrv)), List.map_cons]
      rfl
  unfold results
  rw [Array.mapM_eq_mapM_toList]
  have hk := key fn.results.toList h
  rw [Sem.run_bind, map_eq_pure_bind, Sem.run_bind]
  erw [hk]
  simp only [Result.andThen_ok, Sem.run_pure]
  generalize fn.results.toList.map (resVal tmps) = us
  cases us with
  | nil => rfl
  | cons u r => cases r <;> rfl

theorem init_spec {M : Mem} : ∀ (ps : List PM) (i : Nat) (ds : List D) (vs : List Value) (sl : List (Nat × SV)), initSlots ps i ds = some sl → ArgsRep E.tt M ps vs ds →
    vs.length = ps.length ∧ ∀ t s, lk t sl = some s → i ≤ t ∧ ∃ k d v, s = .val k d ∧ vs[t - i]? = some v ∧ Rep E.tt M k v d := by
  intro ps
  induction ps with
  | nil =>
    intro i ds vs sl h ha
    cases ds with
    | nil =>
      cases vs with
      | nil => injection h with h; subst h; exact ⟨rfl, fun t s h => by cases h⟩
      | cons _ _ => exact ha.elim
    | cons _ _ => cases h
  | cons p ps ih =>
    intro i ds vs sl h ha
    cases p with
    | val k =>
      cases ds with
      | nil => cases h
      | cons d ds =>
        cases vs with
        | nil => exact ha.elim
        | cons v vs =>
          obtain ⟨h1, h2⟩ := ha
          obtain ⟨x, hx, h⟩ := opt_some.1 h
          injection h with h; subst h
          obtain ⟨q1, q2⟩ := ih (i + 1) ds vs x hx h2
          refine ⟨by simp [q1], fun t s h => ?_⟩
          simp only [lk] at h
          cases hb : Nat.beq t i with
          | true =>
            rw [hb] at h; injection h with h; subst h
            have := beq_iff.1 hb; subst this
            exact ⟨Nat.le_refl _, k, _, v, rfl, by simp, by rw [h1.canon]; exact h1⟩
          | false =>
            rw [hb] at h
            obtain ⟨r1, k', d', v', r2, r3, r4⟩ := q2 t s h
            refine ⟨by omega, k', d', v', r2, ?_, r4⟩
            rw [show t - i = (t - (i + 1)) + 1 by omega, List.getElem?_cons_succ]; exact r3
    | own e => cases ds <;> cases h
    | bor e => cases ds <;> cases h
    | box t c => cases ds <;> cases h

theorem fin_ret {w w' : World} {M : Mem} {st : St} {a : Act} (h : SI E (fun _ => False) w M st a w') {fn : Func} {rs : List RM} {r : List D} (hf : finRes E st fn.results.toList rs = some r) :
    ∃ v, (results fn a.tmps).run P w' = .ok v w' ∧ RetOK E w M rs r v w' := by
  obtain ⟨⟨ι, M', H, hs⟩, hwf, hsz, hdf⟩ := h
  cases st with
  | mk n slots objs =>
    have key := fun base => finRes_spec (w := w') n slots hs base r fn.results.toList rs 0 r objs H.obj H.disj (fun i => by rw [Nat.zero_add]) hf
    refine ⟨_, run_results (key 0).1 w', ?_⟩
    intro base svs os hr
    obtain ⟨⟨ι2, k1, k2, k3, k4⟩, k5, k6, k7, k8⟩ := (key base).2 svs os hr
    refine ⟨ι2, M', ⟨k2, k4, ?_, H.mem, H.memx, H.memB, H.os, H.tape, H.output, H.size, H.keep⟩, ?_⟩
    · intro id o b h hb
      obtain ⟨id0, o0, h1, h2⟩ := k3 id o b h hb
      exact H.own id0 o0 b h1 h2
    · generalize fn.results.toList.map (resVal a.tmps) = us at k1 k8
      have htup : SVRel E.tt ι2 M' (.tup svs) (.tuple us.toArray) := ⟨us, rfl, k8.symm, k1⟩
      match svs, us, k8, k1, htup with
      | [], [], _, _, htup => exact htup
      | [s], [u], _, k1, _ => exact .of0 (k1 0 s u rfl rfl)
      | _ :: _ :: _, _ :: _ :: _, _, _, htup => exact htup

structure EnvOK (P : Program) (E : Env) : Prop where
  mixed : P.follows .mixedOrders = true
  tt : TTok P E.tt
  fns : ∀ f fn, lk f E.fns = some fn → FnOK P E f fn
  ext : ∀ f g, lk f E.ext = some g → ∀ sg ds r, lk f E.sigs = some sg → g ds = some r → ∀ (w : World) (M : Mem) (vs : List Value), ArgsRep E.tt M sg.params vs ds → (∀ ad v, M ad = some v → w.cell? ad = some v) →
    CallsF P f vs.toArray w (RetOK E w M sg.results r)

theorem run_sound (hE : EnvOK P E) : ∀ k, CallOK P E (run E k) := by
  intro k
  induction k with
  | zero => intro f sg ds r _ h; cases h
  | succ k ih =>
    intro f sg ds r hsg h w M vs hargs hmem
    simp only [run] at h
    cases hx : lk f E.ext with
    | some g => rw [hx] at h; exact hE.ext f g hx sg ds r hsg h w M vs hargs hmem
    | none =>
      rw [hx] at h
      obtain ⟨fn, hfn, h⟩ := opt_some.1 h
      obtain ⟨sg', hsg', h⟩ := opt_some.1 h
      rw [hsg] at hsg'; injection hsg' with hsg'; subst hsg'
      obtain ⟨c, hc, h⟩ := opt_some.1 h
      obtain ⟨sl, hsl, h⟩ := opt_some.1 h
      obtain ⟨st, hst, h⟩ := opt_some.1 h
      have hF := hE.fns f fn hfn
      obtain ⟨hlen, hinit⟩ := init_spec sg.params 0 ds vs sl hsl hargs
      have hsize : vs.length ≤ fn.ntmps := by rw [hlen]; exact hF.size sg hsg
      left
      refine ⟨?_, calls_of_wp hF.get hc ?_⟩
      · have h1 := hF.get
        have h2 : ¬ fn.name = "runtime.NumGoroutine" := by simpa using hF.name
        simp [callFunc, h1, h2, hc]
      · have hSI : SI E (fun _ => False) w M ⟨fn.ntmps, fun t => lk t sl, fun _ => none⟩ { tmps := vs.toArray ++ Array.replicate (fn.ntmps - vs.toArray.size) undef, defers := [] } w := by
          refine ⟨⟨fun _ => undef, M, ⟨fun id o h => (by cases h), fun id id' o o' b h => (by cases h), fun id o b h => (by cases h), hmem, fun _ _ h => h, fun _ _ _ => rfl, rfl, rfl, rfl, Nat.le_refl _, fun _ _ _ => rfl⟩, ?_⟩, ⟨?_, fun j o h => (by cases h)⟩, ?_, rfl⟩
          · intro t s ht
            obtain ⟨_, k, d, v, rfl, hv, hrep⟩ := hinit t s ht
            have hlt : t < vs.length := (List.getElem?_eq_some_iff.1 hv).1
            have : Act.eval { tmps := vs.toArray ++ Array.replicate (fn.ntmps - vs.toArray.size) undef, defers := [] } (.tmp t) = v := by
              simp only [Act.eval, Array.getD_eq_getD_getElem?]
              rw [Array.getElem?_append_left (by simpa using hlt)]
              simp only [Nat.sub_zero] at hv
              simp [hv]
            show Rep E.tt M k _ d
            rw [this]; exact hrep
          · intro t s ht i hi
            obtain ⟨_, k, d, v, rfl, _⟩ := hinit t s ht
            cases hi
          · simp; omega
        refine exec_sound hE.mixed hE.tt ih c (hF.code c hc) _ _ r st _ w (normAt_sound hSI hst) h ?_
        intro e st' a' w' h' hk
        cases e with
        | normal => obtain ⟨st2, h2, hk⟩ := opt_some.1 hk; obtain ⟨v, h1, h2⟩ := fin_ret (frzSlots_sound _ _ _ h' h2) hk; exact ⟨h'.defers, v, h1, h2⟩
        | exit i => cases hk
        | ret => obtain ⟨st2, h2, hk⟩ := opt_some.1 hk; obtain ⟨v, h1, h2⟩ := fin_ret (frzSlots_sound _ _ _ h' h2) hk; exact ⟨h'.defers, v, h1, h2⟩

end
end Go.Proofs.Ythempoaickahcaa.DS
