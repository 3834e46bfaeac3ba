/- One operation of a region, in memory: the theorem. -/
import Derived.Test.YthempoaickahcaaDsW
set_option linter.unusedVariables false
set_option linter.unusedSimpArgs false
namespace Go.Proofs.Ythempoaickahcaa.DS

section
variable {P : Program} {E : Env} {X : Nat → Prop} {w0 w w' : World} {Mx : Mem} {done : Nat → Prop} {st : St} {a : Act} {draw : Bool}

theorem args_rel {ops : List Oper} {L : List (Nat × Bool)} {ι : Nat → Value} {M : Mem} (hev : ∀ x s, ev st ops L x = some s → SVRel E.tt ι M s (a.eval x)) :
    ∀ (ps : List PM) (xs : List Operand) (ds : List D), argsO st ops L ps xs = some ds → ArgsRep E.tt M ps (xs.map a.eval) ds := by
  intro ps
  induction ps with
  | nil =>
    intro xs ds h
    cases xs with
    | nil => injection h with h; subst h; trivial
    | cons x r => cases h
  | cons p ps ih =>
    intro xs ds h
    cases xs with
    | nil => cases p <;> cases h
    | cons x r =>
      cases p with
      | val k =>
        simp only [argsO] at h
        obtain ⟨s, hs, h⟩ := opt_some.1 h
        obtain ⟨d, hd, h⟩ := opt_some.1 h
        obtain ⟨q, hq, h⟩ := opt_some.1 h
        injection h with h; subst h
        exact ⟨svD_rel hd (hev x s hs), ih r q hq⟩
      | _ => cases h

theorem undef_ne_bool (b : Bool) : (undef : Value) ≠ .bool b := by unfold undef; intro h; cases h

theorem op_sound {callk : Nat → List D → R} (hT : TTok P E.tt) (hcall : CallOK P E callk) {ops : Array Oper} (hn : nodupN (dstsOf ops.toList) = true) (hg : guardsOk ops.toList draw = true) {i : Nat} {o : Oper}
    (hi : nthOp ops.toList i = some o) (hnd : ¬ done i) (hdep : ∀ j w, o.guard = some (j, w) → done j) (h : RI E X w0 Mx ops.toList done st a w) {p : Option Nat × Upd} {st' : St}
    (hp : evalU E callk ops.toList draw i st = some p) (hu : applyU st p.1 p.2 = some st') {Q : Exit → Act → World → Prop} {next : Act → World → Prop}
    (hnext : ∀ a' w', RI E X w0 Mx ops.toList (fun k => done k ∨ k = i) st' a' w' → next a' w') : wpOp P ops Q i next a w := by
  obtain ⟨⟨ι, M, H, hs⟩, hgi, hcl, hwf, hsz, hdf⟩ := h
  have hi' : ops[i]? = some o := by rw [← nthOp_toList]; exact hi
  have hconst : ∀ v s, constSV v = some s → SVRel E.tt ι M s v := fun v s h => .of0 (const_rel h)
  have hwant := wanted_iff (draw := draw) hg hgi hi hdep
  have hgB := guardB_iff (E := E) hn hg hs (i + 1) i o (by omega) hi
  have hev : ∀ L, HoldsL a L → ∀ x s, ev st ops.toList L x = some s → SVRel E.tt ι M s (a.eval x) := fun L hL x s h => ev_rel hn hs hL hconst h
  have hevp : ∀ L, HoldsL a L → ∀ tc b x s, a.eval (.tmp tc) = .bool b → evPick st ops.toList L tc b x = some s → SVRel E.tt ι M s (a.eval x) := fun L hL tc b x s hc h => evPick_rel hn hs hL hconst hc h
  have hself : ∀ t s1, st.slots t = some s1 → ∃ s0, st.slots t = some s0 ∧ ∀ v0, SVRel E.tt ι M s0 v0 → SVRel E.tt ι M s1 v0 := fun t s1 h => ⟨s1, h, fun _ h => h⟩
  -- an operation that is carried out, the world as it was
  have stepSv : ∀ {v : SV} {u : Value}, HoldsL a (chainOf ops.toList i) → (∀ i, i ∈ refsOf v → ∃ o, st.objs i = some o) → SVRel E.tt ι M v u → applyU st o.dst ⟨v, none, []⟩ = some st' → next (a.put o.dst u) w := by
    intro v u hL hr hv hput
    exact hnext _ _ (ri_step hn hg hi hnd hdep hs hgi hcl hsz hdf (s := st) ⟨ι, M, H, hself, fun _ => hv⟩ rfl hwf hr (fun _ _ => hL) hput)
  have stepNo : ∀ {v : SV}, ¬ HoldsL a (chainOf ops.toList i) → (∀ i, i ∈ refsOf v → ∃ o, st.objs i = some o) → applyU st o.dst ⟨v, none, []⟩ = some st' → next (a.put o.dst undef) w := by
    intro v hL hr hput
    exact hnext _ _ (ri_step hn hg hi hnd hdep hs hgi hcl hsz hdf (s := st) ⟨ι, M, H, hself, fun h => absurd h hL⟩ rfl hwf hr (fun b hb => absurd hb (undef_ne_bool b)) hput)
  have stepSt : ∀ {id : Nat} {ob : Obj} {scr : Bool} {v : SV}, HoldsL a (chainOf ops.toList i) → Does P E.tt X w0 Mx ι M a w o st (obSt st id ob scr) v → applyU st o.dst ⟨v, some (id, ob, scr), []⟩ = some st' → o.wp P a w next Q := by
    intro id ob scr v hL hd hput
    obtain ⟨u, w', hrun, ι', H', hsl, hv, hn', hwf', hr'⟩ := hd
    have := hnext _ _ (ri_step (u := u) hn hg hi hnd hdep hs hgi hcl hsz hdf (s := obSt st id ob scr) ⟨ι', M, H', hsl, fun _ => hv⟩ hn' hwf' hr' (fun _ _ => hL) hput)
    unfold Oper.wp
    rcases hrun with hrun | ⟨hrun, rfl⟩
    · rw [hrun]; exact this
    · rw [hrun]; exact this
  have stepCall : ∀ {L : List (Nat × Bool)} {f : Nat} {ds : List D} {rs : List RM} {r : List D} {u : Upd}, HoldsL a (chainOf ops.toList i) → HoldsL a L → opO E draw st ops.toList L o = some (.call f ds rs) → callk f ds = some r → resUpd st rs o.dst r = some u →
      applyU st o.dst u = some st' → o.wp P a w next Q := by
    intro L f ds rs r u hL hL' ho hr hres hput
    obtain ⟨c, sg, hop, hcal, hsg, hargs, rfl⟩ := call_inv ho
    have hrep := args_rel (E := E) (hev L hL') sg.params c.args.toList ds hargs
    have hC := hcall f sg ds r hsg hr w M _ hrep H.mem
    have hvals : (c.args.toList.map a.eval).toArray = c.args.map a.eval := by
      apply Array.toList_inj.1; simp
    rw [hvals] at hC
    have hexec : (execOp a.eval o).run P w = (callFunc f (c.args.map a.eval)).run P w := by
      simp [execOp, hop, resolve, hcal, Act.eval, Deferred.ofValue, invoke]
    have hfin : ∀ v w', RetOK E w M sg.results r v w' → next (a.put o.dst v) w' := by
      intro v w' hret
      obtain ⟨hob, hleft⟩ := ret_left H hwf hret hres
      obtain ⟨⟨ι', M', H', hsl, hv⟩, hn', hwf', hr'⟩ := hleft
      refine hnext _ _ (ri_step (u := v) hn hg hi hnd hdep hs hgi hcl hsz hdf (s := { st with objs := putAll st.objs u.obs }) ⟨ι', M', H', hsl, fun _ => hv⟩ hn' hwf' hr' (fun _ _ => hL) ?_)
      unfold applyU at hput
      rw [hob] at hput
      simp only at hput
      revert hput
      cases u.obs with
      | nil => exact id
      | cons _ _ => exact id
    unfold Oper.wp
    rw [hexec]
    rcases hC with ⟨hrun, hC⟩ | ⟨v, w', hrun, hret⟩
    · rw [hrun]
      refine Calls.mono hC ?_
      intro e w' he
      cases e with
      | returned v => exact hfin v w' he
      | panicked c => exact he.elim
      | outgrown => exact he.elim
    · rw [hrun]
      exact hfin v w' hret
  unfold wpOp
  rw [hi']
  simp only
  unfold evalU at hp
  rw [hi] at hp
  simp only at hp
  cases hc : chainOf ops.toList i with
  | nil =>
    have hL : HoldsL a (chainOf ops.toList i) := by rw [hc]; intro p hp; cases hp
    rw [if_pos (hwant.2 hL)]
    rw [hc] at hp
    simp only at hp
    left
    have hL0 : HoldsL a [] := fun p hp => by cases hp
    cases ho : opO E draw st ops.toList [] o with
    | none => rw [ho] at hp; cases hp
    | some out =>
      rw [ho] at hp
      cases out with
      | sv c v =>
        obtain ⟨hcc, hp⟩ := cond_some.1 hp
        injection hp with hp; subst hp
        obtain ⟨u, hrun, hv⟩ := sv_sound hT (hev [] hL0) (hevp [] hL0) H.obj H.mem ho hcc
        unfold Oper.wp
        rw [hrun]
        exact stepSv hL (sv_there hwf ho) hv hu
      | ob c id ob scr v =>
        obtain ⟨hcc, hp⟩ := cond_some.1 hp
        injection hp with hp; subst hp
        exact stepSt hL (st_sound hT (hev [] hL0) H hwf ho hcc) hu
      | call f ds rs =>
        obtain ⟨_, hp⟩ := cond_some.1 hp
        obtain ⟨r, hr, hp⟩ := opt_some.1 hp
        obtain ⟨u, hres, hp⟩ := opt_some.1 hp
        injection hp with hp; subst hp
        exact stepCall hL hL0 ho hr hres hu
  | cons q L =>
    rw [hc] at hp
    simp only at hp
    obtain ⟨hth, hp⟩ := cond_some.1 hp
    replace hgB := hgB (by rw [hc]; exact hth)
    rw [← hc] at hp
    cases ho : opO E draw st ops.toList (chainOf ops.toList i) o with
    | none => rw [ho] at hp; cases hp
    | some out =>
      rw [ho] at hp
      by_cases hL : HoldsL a (chainOf ops.toList i)
      · rw [if_pos (hwant.2 hL)]
        have hgb := hgB.2 hL
        rw [hgb] at hp
        left
        cases out with
        | sv c v =>
          obtain ⟨hcc, hp⟩ := cond_some.1 hp
          injection hp with hp; subst hp
          obtain ⟨u, hrun, hv⟩ := sv_sound hT (hev _ hL) (hevp _ hL) H.obj H.mem ho (by simpa using hcc)
          unfold Oper.wp
          rw [hrun]
          exact stepSv hL (sv_there hwf ho) hv hu
        | ob c id ob scr v => cases hp
        | call f ds rs =>
          obtain ⟨_, hp⟩ := cond_some.1 hp
          obtain ⟨r, hr, hp⟩ := opt_some.1 hp
          obtain ⟨u, hres, hp⟩ := opt_some.1 hp
          injection hp with hp; subst hp
          exact stepCall hL hL ho hr hres hu
      · rw [if_neg (fun h => hL (hwant.1 h))]
        cases out with
        | sv c v =>
          obtain ⟨hcc, hp⟩ := cond_some.1 hp
          injection hp with hp; subst hp
          exact stepNo hL (sv_there hwf ho) hu
        | ob c id ob scr v => cases hp
        | call f ds rs =>
          obtain ⟨hv, hp⟩ := cond_some.1 hp
          obtain ⟨r, hr, hp⟩ := opt_some.1 hp
          obtain ⟨u, hres, hp⟩ := opt_some.1 hp
          injection hp with hp; subst hp
          obtain ⟨v, hv1, hv2⟩ := resUpd_vals hv o.dst r
          rw [hv1 st] at hres
          injection hres with hres; subst hres
          exact stepNo hL (fun i hi => by rw [hv2] at hi; cases hi) hu

end
end Go.Proofs.Ythempoaickahcaa.DS
