/- One operation of a region, in memory: the theorem. -/
import Derived.Test.YtjofkhdnidjleabDoorDuD
set_option linter.unusedVariables false
set_option linter.unusedSimpArgs false
namespace Go.Proofs.YtjofkhdnidjleabDoor.DS

section
variable {P : Program} {E : Env} {X : Nat → Prop} {w0 w w' : World} {Mx : Mem} {pv : Nat → Option Value} {done : Nat → Prop} {st : St} {a : Act} {draw : Bool}

def fullM (w : World) : Mem := fun ad => w.cell? ad
theorem arr_full {tt : TT} {M : Mem} {e : TypeId} {ei : TI} (he : lk e tt = some ei) {v : Value} {es : List D} (h : ArrRel tt M w ei v es) (hM : ∀ ad u, M ad = some u → w.cell? ad = some u) : Rep tt (fullM w) (.slice e) v (.list es) := by
  rcases h with ⟨rfl, rfl⟩ | ⟨b, cap, cur, t, fr, vs, rfl, hh, h1, h2, h3, h4, h5⟩
  · exact .nil _ _ _ (Nat.zero_le _)
  · cases es with
    | nil => exact .nil _ _ _ h2
    | cons x r =>
      refine .slice e ei ⟨b, 0, none⟩ cap (x :: r) vs (by simp) h1 h2 he rfl (fun i hi => (h5 i hi).1) (fun i j u hi hu => ?_) (fun i hi => ((h5 i hi).2.2).mono hM)
      have := (h5 i hi).2.1 j u hu
      simp only [fullM, World.cell?, hh, Nat.zero_add]
      exact this
theorem args_rel {ops : List Oper} {L : List (Nat × Bool)} {b : Bool} {ι : Nat → Value} {M M1 : Mem} (hev : ∀ x s, ev st ops L x = some s → SVRel E.tt ι M s (a.eval x)) (H : HRel E.tt X w0 Mx ι M st.objs w) (h1 : ∀ ad v, M ad = some v → M1 ad = some v) (h2 : b = true → M1 = fullM w) :
    ∀ (ps : List PM) (xs : List Operand) (ds : List D), argsO st ops L b ps xs = some ds → ArgsRep E.tt M1 ps (xs.map a.eval) ds := by
  intro ps
  induction ps with
  | nil =>
    intro xs ds h
    cases xs with
    | nil => injection h with h; subst h; trivial
    | cons x r => cases h
  | cons p ps ih =>
    intro xs ds h
    cases xs with
    | nil => cases p <;> cases h
    | cons x r =>
      cases p with
      | val k =>
        simp only [argsO] at h
        replace h := opt_some.1 h
        obtain ⟨s, hs, h⟩ := h
        replace h := opt_some.1 h
        obtain ⟨d, hd, h⟩ := h
        replace h := opt_some.1 h
        obtain ⟨q, hq, h⟩ := h
        injection h with h; subst h
        refine ⟨?_, ih r q hq⟩
        have hsv := hev x s hs
        cases s with
        | own i =>
          simp only [argD] at hd
          replace hd := cond_some.1 hd
          obtain ⟨hb, hd⟩ := hd
          rw [h2 hb]
          obtain ⟨hv, _⟩ : a.eval x = ι i ∧ _ := hsv
          cases k with
          | slice e =>
            cases hob : st.objs i with
            | none => rw [hob] at hd; cases hd
            | some o =>
              rw [hob] at hd
              cases o with
              | box _ _ => cases hd
              | arr e' es =>
                replace hd := cond_some.1 hd
                obtain ⟨he, hd⟩ := hd
                have he := beq_iff.1 he
                subst he
                injection hd with hd; subst hd
                obtain ⟨ei, g1, _, g3⟩ := H.obj i _ hob
                show Rep E.tt (fullM w) (.slice e) (a.eval x) (.list es)
                rw [hv]
                exact arr_full g1 g3 H.mem
          | _ => cases hd
        | val k' d' => exact (svD_rel (s := .val k' d') hd hsv).mono h1
        | nil => exact (svD_rel (ι := ι) (M := M) (s := .nil) hd hsv).mono h1
        | sag t' ks l => exact (svD_rel (s := .sag t' ks l) hd hsv).mono h1
        | _ => simp [argD, svD, svD1] at hd
      | _ => cases h

theorem argsC_box {ops : List Oper} {L : List (Nat × Bool)} {id : Nat} : ∀ {ps : List PM} {xs : List Operand} {ds : List D}, argsC E st ops L id ps xs = some ds → noBoxP ps = true := by
  intro ps
  induction ps with
  | nil => intro xs ds _; rfl
  | cons p ps ih =>
    intro xs ds h
    cases p with
    | val k =>
      cases xs with
      | nil => cases ps <;> cases h
      | cons x xs =>
        simp only [argsC] at h
        obtain ⟨s, _, h⟩ := opt_some.1 h
        obtain ⟨d, _, h⟩ := opt_some.1 h
        obtain ⟨r, hr, h⟩ := opt_some.1 h
        exact ih hr
    | ref k =>
      cases ps with
      | nil => rfl
      | cons _ _ => cases xs <;> cases h
    | _ => cases xs <;> cases ps <;> cases h
theorem refD_rel {P : Program} {ι : Nat → Value} {M : Mem} (hT : TTok P E.tt) (H : HRel E.tt X w0 Mx ι M st.objs w) {id : Nat} {k : KT} {d : D} (h : refD E st id k = some d) : SVRel0 E.tt (fun _ => undef) (fullM w) (.eptr k d) (ι id) := by
  unfold refD at h
  split at h
  · rename_i u d' hob
    obtain ⟨ui, hui, h⟩ := opt_some.1 h
    obtain ⟨hk, h⟩ := cond_some.1 h
    have hk := KT.eq_iff.1 hk
    injection h with h; subst h
    obtain ⟨ti, b, cs, g1, g2, g3, _, g4⟩ := H.obj id _ hob
    rw [hui] at g1; injection g1 with g1; subst g1
    refine ⟨⟨b, 0, none⟩, .agg cs, u, ui, g2, rfl, hui, hk, ?_, fun j c hj => ?_⟩
    · rw [← hk]; exact g4.mono H.mem
    · simp only [fullM, World.cell?, g3, Nat.zero_add]
      exact hj
  · rename_i u s hob
    obtain ⟨ui, hui, h⟩ := opt_some.1 h
    obtain ⟨hk, h⟩ := cond_some.1 h
    simp only [Bool.and_eq_true] at hk
    have hk1 := KT.eq_iff.1 hk.1
    obtain ⟨ti, b, cs, g1, g2, g3, g4, g5, g6⟩ := H.obj id _ hob
    rw [hui] at g1; injection g1 with g1; subst g1
    have hlen : cs.size = 1 := by rw [g4, ← g5]; rfl
    have hrep : Rep E.tt M k (cs[0]'(by omega)) d := svD_rel h (.of0 (g6 0 s _ rfl (Array.getElem?_eq_getElem (by omega))))
    have hsing : k.single = true := by have := hk.2; cases k <;> first | rfl | cases this
    refine ⟨⟨b, 0, none⟩, cs[0]'(by omega), u, ui, g2, rfl, hui, hk1, hrep.mono H.mem, fun j c hj => ?_⟩
    rw [(hrep.cells_single hsing).1] at hj
    have hj0 : j = 0 := by
      have := (Array.getElem?_eq_some_iff.1 hj).1
      simp at this; exact this
    subst hj0
    simp at hj
    simp only [fullM, World.cell?, g3, Nat.zero_add]
    rw [← hj]; exact Array.getElem?_eq_getElem (by omega)
  · cases h
theorem argsC_rel {P : Program} {ops : List Oper} {L : List (Nat × Bool)} {ι : Nat → Value} {M : Mem} (hT : TTok P E.tt) (hev : ∀ x s, ev st ops L x = some s → SVRel E.tt ι M s (a.eval x)) (H : HRel E.tt X w0 Mx ι M st.objs w) {id : Nat} :
    ∀ (ps : List PM) (xs : List Operand) (ds : List D), argsC E st ops L id ps xs = some ds → ArgsRep E.tt (fullM w) ps (xs.map a.eval ++ [ι id]) ds := by
  intro ps
  induction ps with
  | nil => intro xs ds h; cases xs <;> cases h
  | cons p ps ih =>
    intro xs ds h
    cases p with
    | val k =>
      cases xs with
      | nil => cases ps <;> cases h
      | cons x xs =>
        simp only [argsC] at h
        obtain ⟨s, hs, h⟩ := opt_some.1 h
        obtain ⟨d, hd, h⟩ := opt_some.1 h
        obtain ⟨r, hr, h⟩ := opt_some.1 h
        injection h with h; subst h
        have h1 : argsO st ops L true [.val k] [x] = some [d] := by simp only [argsO, hs, hd, opt]
        exact ⟨(args_rel hev H (M1 := fullM w) H.mem (fun _ => rfl) [.val k] [x] [d] h1).1, ih xs r hr⟩
    | ref k =>
      cases ps with
      | nil =>
        cases xs with
        | nil =>
          simp only [argsC] at h
          obtain ⟨d, hd, h⟩ := opt_some.1 h
          injection h with h; subst h
          exact ⟨refD_rel hT H hd, trivial⟩
        | cons _ _ => cases h
      | cons _ _ => cases xs <;> cases h
    | _ => cases xs <;> cases ps <;> cases h

theorem undef_ne_bool (b : Bool) : (undef : Value) ≠ .bool b := by unfold undef; intro h; cases h

theorem op_sound {callk : Nat → List D → R} (hT : TTok P E.tt) {W0 : World} (hS : Same W0 w0) (hX : ∀ b, X b → W0.heap.size ≤ b) (hcall : CallOK P E W0 callk) {ops : Array Oper} (hn : nodupN (dstsOf ops.toList) = true) (hg : guardsOk ops.toList draw = true) {i : Nat} {o : Oper}
    (hi : nthOp ops.toList i = some o) (hnd : ¬ done i) (hdep : ∀ j w, o.guard = some (j, w) → done j) (hpd : ∀ t, o.dst = some t → pv t = none) (h : RI E X w0 Mx pv ops.toList done st a w) {p : Option Nat × Upd} {st' : St}
    (hp : evalU E callk ops.toList draw i st = some p) (hu : applyU st p.1 p.2 = some st') {Q : Exit → Act → World → Prop} {next : Act → World → Prop}
    (hnext : ∀ a' w', RI E X w0 Mx pv ops.toList (fun k => done k ∨ k = i) st' a' w' → next a' w') : wpOp P ops Q i next a w := by
  obtain ⟨⟨ι, M, H, hs⟩, hgi, hcl, hwf, hsz, hdf, hpin⟩ := h
  have hi' : ops[i]? = some o := by rw [← nthOp_toList]; exact hi
  have hconst : ∀ v s, constSV v = some s → SVRel E.tt ι M s v := fun v s h => .of0 (const_rel h)
  have hwant := wanted_iff (draw := draw) hg hgi hi hdep
  have hgB := guardB_iff (E := E) hn hg hs (i + 1) i o (by omega) hi
  have hev : ∀ L, HoldsL a L → ∀ x s, ev st ops.toList L x = some s → SVRel E.tt ι M s (a.eval x) := fun L hL x s h => ev_rel hn hs hL hconst h
  have hevp : ∀ L, HoldsL a L → ∀ tc b x s, a.eval (.tmp tc) = .bool b → evPick st ops.toList L tc b x = some s → SVRel E.tt ι M s (a.eval x) := fun L hL tc b x s hc h => evPick_rel hn hs hL hconst hc h
  have hself : ∀ t s1, st.slots t = some s1 → ∃ s0, st.slots t = some s0 ∧ ∀ v0, SVRel E.tt ι M s0 v0 → SVRel E.tt ι M s1 v0 := fun t s1 h => ⟨s1, h, fun _ h => h⟩
  -- an operation that is carried out, the world as it was
  have stepSv : ∀ {v : SV} {u : Value}, HoldsL a (chainOf ops.toList i) → (∀ i, i ∈ refsOf v → ∃ o, st.objs i = some o) → SVRel E.tt ι M v u → applyU st o.dst ⟨v, none, []⟩ = some st' → next (a.put o.dst u) w := by
    intro v u hL hr hv hput
    exact hnext _ _ (ri_step hn hg hi hnd hdep hs hgi hcl hsz hdf hpin hpd (s := st) ⟨ι, M, H, hself, fun _ => hv⟩ rfl hwf hr (fun _ _ => hL) hput)
  have stepNo : ∀ {v : SV}, ¬ HoldsL a (chainOf ops.toList i) → (∀ i, i ∈ refsOf v → ∃ o, st.objs i = some o) → applyU st o.dst ⟨v, none, []⟩ = some st' → next (a.put o.dst undef) w := by
    intro v hL hr hput
    exact hnext _ _ (ri_step hn hg hi hnd hdep hs hgi hcl hsz hdf hpin hpd (s := st) ⟨ι, M, H, hself, fun h => absurd h hL⟩ rfl hwf hr (fun b hb => absurd hb (undef_ne_bool b)) hput)
  have stepSt : ∀ {id : Nat} {ob : Obj} {scr : Bool} {v : SV}, HoldsL a (chainOf ops.toList i) → Does P E.tt X w0 Mx ι M a w o st (obSt st id ob scr) v → applyU st o.dst ⟨v, some (id, ob, scr), []⟩ = some st' → o.wp P a w next Q := by
    intro id ob scr v hL hd hput
    obtain ⟨u, w', hrun, ι', H', hsl, hv, hn', hwf', hr'⟩ := hd
    have := hnext _ _ (ri_step (u := u) hn hg hi hnd hdep hs hgi hcl hsz hdf hpin hpd (s := obSt st id ob scr) ⟨ι', M, H', hsl, fun _ => hv⟩ hn' hwf' hr' (fun _ _ => hL) hput)
    unfold Oper.wp
    rcases hrun with hrun | ⟨hrun, rfl⟩
    · rw [hrun]; exact this
    · rw [hrun]; exact this
  have stepCall : ∀ {L : List (Nat × Bool)} {f : Nat} {ds : List D} {rs : List RM} {r : List D} {u : Upd}, HoldsL a (chainOf ops.toList i) → HoldsL a L → opO E draw st ops.toList L o = some (.call f ds rs) → callk f ds = some r → resUpd st rs o.dst r = some u →
      applyU st o.dst u = some st' → o.wp P a w next Q := by
    intro L f ds rs r u hL hL' ho hr hres hput
    obtain ⟨c, sg, hop, hsg, rfl, hcase⟩ := call_inv ho
    have hSw := H.same hS hX
    have hC0 : ∀ vs, (flatR sg.results = false ∧ ArgsRep E.tt M sg.params vs ds ∨ flatR sg.results = true ∧ ArgsRep E.tt (fullM w) sg.params vs ds) → noBoxP sg.params = true → CallsF P f vs.toArray w (RetV E w M sg.results r) := by
      intro vs hrep hvp
      rcases hrep with ⟨hfl, hrep⟩ | ⟨hfl, hrep⟩
      · exact (hcall f sg ds r hsg hr w M _ (fun _ => False) hSw (fun b h => h.elim) (argsOK_of hrep H.mem)).mono fun v w' hret => ret_vals (noBox_outs hvp) hret
      · exact (hcall f sg ds r hsg hr w (fullM w) _ (fun _ => False) hSw (fun b h => h.elim) (argsOK_of hrep (fun _ _ h => h))).mono fun v w' hret => ret_flat hfl H.mem (fun _ _ h => h) (ret_vals (noBox_outs hvp) hret)
    obtain ⟨vs, hC, hexec⟩ : ∃ vs : Array Value, CallsF P f vs w (RetV E w M sg.results r) ∧ (execOp a.eval o).run P w = (callFunc f vs).run P w := by
      rcases hcase with ⟨hcal, hargs⟩ | ⟨t, id, hcal, hclo, hfl, hargs⟩
      · refine ⟨(c.args.toList.map a.eval).toArray, hC0 _ ?_ (noBox_of_val (allValP_args hargs)), ?_⟩
        · cases hfl : flatR sg.results with
          | false =>
            rw [hfl] at hargs
            exact .inl ⟨rfl, args_rel (hev L hL') H (M1 := M) (fun _ _ h => h) (fun h => by cases h) sg.params c.args.toList ds hargs⟩
          | true =>
            rw [hfl] at hargs
            exact .inr ⟨rfl, args_rel (hev L hL') H (M1 := fullM w) H.mem (fun _ => rfl) sg.params c.args.toList ds hargs⟩
        · have hvals : (c.args.toList.map a.eval).toArray = c.args.map a.eval := by
            apply Array.toList_inj.1; simp
          rw [hvals]
          simp [execOp, hop, resolve, hcal, Act.eval, Deferred.ofValue, invoke]
      · obtain ⟨b, hb, hv⟩ := hev L hL' _ _ hclo
        refine ⟨(c.args.toList.map a.eval ++ [ι id]).toArray, hC0 _ (.inr ⟨hfl, argsC_rel hT (hev L hL') H sg.params c.args.toList ds hargs⟩) (argsC_box hargs), ?_⟩
        have hvals : (c.args.toList.map a.eval ++ [ι id]).toArray = c.args.map a.eval ++ #[.pointer (some ⟨b, 0, none⟩)] := by
          rw [hb]
          apply Array.toList_inj.1; simp
        rw [hvals]
        simp [execOp, hop, resolve, hcal, hv, Deferred.ofValue, invoke]
    have hfin : ∀ v w', RetV E w M sg.results r v w' → next (a.put o.dst v) w' := by
      intro v w' hret
      obtain ⟨hob, hleft⟩ := ret_left H hwf hret hres
      obtain ⟨⟨ι', M', H', hsl, hv⟩, hn', hwf', hr'⟩ := hleft
      refine hnext _ _ (ri_step (u := v) hn hg hi hnd hdep hs hgi hcl hsz hdf hpin hpd (s := { st with objs := putAll st.objs u.obs }) ⟨ι', M', H', hsl, fun _ => hv⟩ hn' hwf' hr' (fun _ _ => hL) ?_)
      unfold applyU at hput
      rw [hob] at hput
      simp only at hput
      revert hput
      cases u.obs with
      | nil => exact id
      | cons _ _ => exact id
    unfold Oper.wp
    rw [hexec]
    rcases hC with ⟨hrun, hC⟩ | ⟨v, w', hrun, hret⟩
    · rw [hrun]
      refine Calls.mono hC ?_
      intro e w' he
      cases e with
      | returned v => exact hfin v w' he
      | panicked c => exact he.elim
      | outgrown => exact he.elim
    · rw [hrun]
      exact hfin v w' hret
  unfold wpOp
  rw [hi']
  simp only
  unfold evalU at hp
  rw [hi] at hp
  simp only at hp
  cases hc : chainOf ops.toList i with
  | nil =>
    have hL : HoldsL a (chainOf ops.toList i) := by rw [hc]; intro p hp; cases hp
    rw [if_pos (hwant.2 hL)]
    rw [hc] at hp
    simp only at hp
    left
    have hL0 : HoldsL a [] := fun p hp => by cases hp
    cases ho : opO E draw st ops.toList [] o with
    | none => rw [ho] at hp; cases hp
    | some out =>
      rw [ho] at hp
      cases out with
      | sv c v =>
        obtain ⟨hcc, hp⟩ := cond_some.1 hp
        injection hp with hp; subst hp
        obtain ⟨u, hrun, hv⟩ := sv_sound hT (hev [] hL0) (hevp [] hL0) H.obj H.mem ho hcc
        unfold Oper.wp
        rw [hrun]
        exact stepSv hL (sv_there hwf ho) hv hu
      | ob c id ob scr v =>
        obtain ⟨hcc, hp⟩ := cond_some.1 hp
        injection hp with hp; subst hp
        exact stepSt hL (st_sound hT (hev [] hL0) H hwf ho hcc) hu
      | call f ds rs =>
        obtain ⟨_, hp⟩ := cond_some.1 hp
        obtain ⟨r, hr, hp⟩ := opt_some.1 hp
        obtain ⟨u, hres, hp⟩ := opt_some.1 hp
        injection hp with hp; subst hp
        exact stepCall hL hL0 ho hr hres hu
      | hcall _ _ _ _ _ => cases hp
  | cons q L =>
    rw [hc] at hp
    simp only at hp
    obtain ⟨hth, hp⟩ := cond_some.1 hp
    replace hgB := hgB (by rw [hc]; exact hth)
    rw [← hc] at hp
    cases ho : opO E draw st ops.toList (chainOf ops.toList i) o with
    | none => rw [ho] at hp; cases hp
    | some out =>
      rw [ho] at hp
      by_cases hL : HoldsL a (chainOf ops.toList i)
      · rw [if_pos (hwant.2 hL)]
        have hgb := hgB.2 hL
        rw [hgb] at hp
        left
        cases out with
        | sv c v =>
          obtain ⟨hcc, hp⟩ := cond_some.1 hp
          injection hp with hp; subst hp
          obtain ⟨u, hrun, hv⟩ := sv_sound hT (hev _ hL) (hevp _ hL) H.obj H.mem ho (by simpa using hcc)
          unfold Oper.wp
          rw [hrun]
          exact stepSv hL (sv_there hwf ho) hv hu
        | ob c id ob scr v => cases hp
        | call f ds rs =>
          obtain ⟨_, hp⟩ := cond_some.1 hp
          obtain ⟨r, hr, hp⟩ := opt_some.1 hp
          obtain ⟨u, hres, hp⟩ := opt_some.1 hp
          injection hp with hp; subst hp
          exact stepCall hL hL ho hr hres hu
        | hcall _ _ _ _ _ => cases hp
      · rw [if_neg (fun h => hL (hwant.1 h))]
        cases out with
        | sv c v =>
          obtain ⟨hcc, hp⟩ := cond_some.1 hp
          injection hp with hp; subst hp
          exact stepNo hL (sv_there hwf ho) hu
        | ob c id ob scr v => cases hp
        | call f ds rs =>
          obtain ⟨hv, hp⟩ := cond_some.1 hp
          obtain ⟨r, hr, hp⟩ := opt_some.1 hp
          obtain ⟨u, hres, hp⟩ := opt_some.1 hp
          injection hp with hp; subst hp
          obtain ⟨v, hv1, hv2⟩ := resUpd_vals hv o.dst r
          rw [hv1 st] at hres
          injection hres with hres; subst hres
          exact stepNo hL (fun i hi => by rw [hv2] at hi; cases hi) hu
        | hcall _ _ _ _ _ => cases hp

/-- A call to which boxes or rows are handed over. -/
theorem hop_sound {callk : Nat → List D → R} (hT : TTok P E.tt) {W0 : World} (hS : Same W0 w0) (hX : ∀ b, X b → W0.heap.size ≤ b) (hcall : CallOK P E W0 callk) {ops : Array Oper} (hn : nodupN (dstsOf ops.toList) = true) (hg : guardsOk ops.toList draw = true) {i : Nat} {o : Oper}
    (hi : nthOp ops.toList i = some o) (hnd : ¬ done i) (hdep : ∀ j w, o.guard = some (j, w) → done j) (hpd : ∀ t, o.dst = some t → pv t = none) (h : RI E X w0 Mx pv ops.toList done st a w) (hch : chainOf ops.toList i = []) {f : Nat} {ds : List D} {sg : Sig} {rows : List Nat} {boxes : List (Nat × TypeId × List CK)}
    (ho : opO E draw st ops.toList [] o = some (.hcall f ds sg rows boxes)) {r : List D} (hr : callk f ds = some r) {st' : St} (hu : hUpd st sg o.dst rows boxes r = some st') {Q : Exit → Act → World → Prop} {next : Act → World → Prop}
    (hnext : ∀ a' w', RI E X w0 Mx pv ops.toList (fun k => done k ∨ k = i) st' a' w' → next a' w') : wpOp P ops Q i next a w := by
  obtain ⟨⟨ι, M, H, hs⟩, hgi, hcl, hwf, hsz, hdf, hpin⟩ := h
  have hi' : ops[i]? = some o := by rw [← nthOp_toList]; exact hi
  have hconst : ∀ v s, constSV v = some s → SVRel E.tt ι M s v := fun v s h => .of0 (const_rel h)
  have hwant := wanted_iff (draw := draw) hg hgi hi hdep
  have hL : HoldsL a (chainOf ops.toList i) := by rw [hch]; intro p hp; cases hp
  have hL0 : HoldsL a [] := fun p hp => by cases hp
  have hev : ∀ x s, ev st ops.toList [] x = some s → SVRel E.tt ι M s (a.eval x) := fun x s h => ev_rel hn hs hL0 hconst h
  obtain ⟨c, hop, hcal, hsg, rs, hargs, rfl⟩ := hcall_inv ho
  have hvals : (c.args.toList.map a.eval).toArray = c.args.map a.eval := by
    apply Array.toList_inj.1; simp
  have hexec : (execOp a.eval o).run P w = (callFunc f (c.args.map a.eval)).run P w := by
    simp [execOp, hop, resolve, hcal, Act.eval, Deferred.ofValue, invoke]
  obtain ⟨R0, hC, hfin⟩ : ∃ R0 : Value → World → Prop, CallsF P f (c.args.map a.eval) w R0 ∧ ∀ v w', R0 v w' → next (a.put o.dst v) w' := by
    unfold hUpd at hu
    cases hgone : sg.gone with
    | false =>
      rw [hgone, cond_false] at hu
      have houts : sg.outs = sg.params := by unfold Sig.outs; rw [hgone]; rfl
      unfold hUpd0 at hu
      replace hu := opt_some.1 hu
      obtain ⟨x, hx, hu⟩ := hu
      replace hu := cond_some.1 hu
      obtain ⟨hc, hput⟩ := hu
      simp only [Bool.and_eq_true] at hc
      obtain ⟨hc1, hc2, hc3, _⟩ := hc
      obtain ⟨bid, hbx, hbv, hAO⟩ := hargs_ok hT hev H hargs (nodupL_iff.1 hc1)
      have hC := hcall f sg ds r hsg hr w M _ (Xh st ι (sndL rs ++ boxIds boxes)) (H.same hS hX) (fun b ⟨j, _, oj, hoj, hbj⟩ => by
        rcases (H.own j oj b hoj hbj).1 with h | h
        · exact Nat.le_trans hS.size h
        · exact hX b h) hAO
      rw [hvals, houts] at hC
      refine ⟨_, hC, fun v w' hret => ?_⟩
      obtain ⟨ι', M', H', hsl, hv, hwf', hvr⟩ := hret_left H hwf hbx (fun p t cs hp => (hbv p t cs hp).1) hret hx hc2 hc3
      exact hnext _ _ (ri_step (u := v) hn hg hi hnd hdep hs hgi hcl hsz hdf hpin hpd (s := { dropRows (sndL rs) st with objs := putAll (dropRows (sndL rs) st).objs (x.2 ++ boxObjs boxes sg.results.length r) }) ⟨ι', M', H', hsl, fun _ => hv⟩ (drop_all (sndL rs) H hwf).n hwf' hvr (fun _ _ => hL) hput)
    | true =>
      rw [hgone, cond_true] at hu
      have houts : sg.outs = [] := by unfold Sig.outs; rw [hgone]; rfl
      unfold hUpd0 at hu
      replace hu := opt_some.1 hu
      obtain ⟨x, hx, hu⟩ := hu
      replace hu := cond_some.1 hu
      obtain ⟨hc, hput⟩ := hu
      simp only [Bool.and_eq_true] at hc
      obtain ⟨hc1, hc2, hc3, _⟩ := hc
      have hb0 : boxIds ([] : List (Nat × TypeId × List CK)) = [] := rfl
      rw [hb0, List.append_nil] at hc1
      obtain ⟨bid, hbx, hbv, hAO⟩ := hargs_ok hT hev H hargs (nodupL_iff.1 hc1)
      have hC := hcall f sg ds r hsg hr w M _ (Xh st ι (sndL rs ++ boxIds boxes)) (H.same hS hX) (fun b ⟨j, _, oj, hoj, hbj⟩ => by
        rcases (H.own j oj b hoj hbj).1 with h | h
        · exact Nat.le_trans hS.size h
        · exact hX b h) hAO
      rw [hvals, houts] at hC
      refine ⟨_, hC, fun v w' hret => ?_⟩
      obtain ⟨ι', M', H', hsl, hv, hwf', hvr⟩ := hret_left (ps := []) (rows := sndL rs ++ boxIds boxes) (boxes := []) (bid := fun _ => 0) H hwf rfl (fun p t cs hp => by simp at hp) (by rw [hb0, List.append_nil]; exact hret) hx hc2 hc3
      exact hnext _ _ (ri_step (u := v) hn hg hi hnd hdep hs hgi hcl hsz hdf hpin hpd (s := { dropRows (sndL rs ++ boxIds boxes) st with objs := putAll (dropRows (sndL rs ++ boxIds boxes) st).objs (x.2 ++ boxObjs [] sg.results.length r) }) ⟨ι', M', H', hsl, fun _ => hv⟩ (drop_all (sndL rs ++ boxIds boxes) H hwf).n hwf' hvr (fun _ _ => hL) hput)
  unfold wpOp
  rw [hi']
  simp only
  rw [if_pos (hwant.2 hL)]
  left
  unfold Oper.wp
  rw [hexec]
  rcases hC with ⟨hrun, hC⟩ | ⟨v, w', hrun, hret⟩
  · rw [hrun]
    refine Calls.mono hC ?_
    intro e w' he
    cases e with
    | returned v => exact hfin v w' he
    | panicked c => exact he.elim
    | outgrown => exact he.elim
  · rw [hrun]
    exact hfin v w' hret

end
end Go.Proofs.YtjofkhdnidjleabDoor.DS
