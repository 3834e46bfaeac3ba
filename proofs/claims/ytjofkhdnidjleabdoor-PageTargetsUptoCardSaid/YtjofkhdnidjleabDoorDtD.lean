/- Runs in memory. -/
import Derived.Test.YtjofkhdnidjleabDoorDtC
set_option linter.unusedVariables false
set_option linter.unusedSimpArgs false
namespace Go.Proofs.YtjofkhdnidjleabDoor.DS

section
variable {P : Program} {E : Env}

def resultVal (us : List Value) : Value := match us with | [u] => u | l => .tuple l.toArray

theorem run_results {fn : Func} {tmps : Array Value} (w : World) (h : ∀ rv ∈ fn.results.toList, GoodRV P w tmps rv) : (results fn tmps).run P w = .ok (resultVal (fn.results.toList.map (resVal P w tmps))) w := by
  have key : ∀ (l : List ResultVar), (∀ rv ∈ l, GoodRV P w tmps rv) → (l.mapM (m := Sem) fun rv => match rv with
      | .tmp t => pure (tmps.getD t undef)
      | .cell a t => do loadVar t (← asAddr (tmps.getD a undef))).run P w = .ok (l.map (resVal P w tmps)) w := by
    intro l
    induction l with
    | nil => intro _; simp
    | cons x r ih =>
      intro h
      have hx := h x List.mem_cons_self
      cases x with
      | tmp t =>
        simp only [List.mapM_cons, Sem.run_bind, Sem.run_pure, Result.andThen_ok, ih (fun rv hrv => h rv (List.mem_cons_of_mem _ hrv)), List.map_cons]
        rfl
      | cell t ty =>
        obtain ⟨u, hu⟩ := hx
        have e : resVal P w tmps (.cell t ty) = u := by simp only [resVal, hu]
        rw [List.mapM_cons, Sem.run_bind]
        erw [hu]
        simp only [Sem.run_bind, Sem.run_pure, Result.andThen_ok, ih (fun rv hrv => h rv (List.mem_cons_of_mem _ hrv)), List.map_cons, e]
  unfold results
  rw [Array.mapM_eq_mapM_toList]
  have hk := key fn.results.toList h
  rw [Sem.run_bind, map_eq_pure_bind, Sem.run_bind]
  erw [hk]
  simp only [Result.andThen_ok, Sem.run_pure]
  generalize fn.results.toList.map (resVal P w tmps) = us
  cases us with
  | nil => rfl
  | cons u r => cases r <;> rfl

theorem finRes_len {st : St} : ∀ (vs : List ResultVar) (rs : List RM) (x : List D × (Nat → Option Obj)), finRes E st vs rs = some x → vs.length = rs.length := by
  intro vs rs x h
  have key : ∀ (vs : List ResultVar) (rs : List RM) (n : Nat) (slots : Nat → Option SV) (objs : Nat → Option Obj) (x : List D × (Nat → Option Obj)), finRes E ⟨n, slots, objs⟩ vs rs = some x → vs.length = rs.length := by
    intro vs
    induction vs with
    | nil => intro rs n slots objs x h; cases rs with | nil => rfl | cons _ _ => cases h
    | cons v vs ih =>
      intro rs n slots objs x h
      cases rs with
      | nil => cases v <;> cases h
      | cons r rs =>
        cases v with
        | cell t ty =>
          cases r with
          | own e => cases h
          | any => cases h
          | val k =>
            simp only [finRes] at h
            replace h := opt_some.1 h
            obtain ⟨s, hs, h⟩ := h
            replace h := opt_some.1 h
            obtain ⟨d, hd, h⟩ := h
            replace h := opt_some.1 h
            obtain ⟨y, hy, h⟩ := h
            simp [ih rs n slots objs y hy]
        | tmp t =>
          cases r with
          | any =>
            simp only [finRes] at h
            replace h := opt_some.1 h
            obtain ⟨y, hy, h⟩ := h
            simp [ih rs n slots objs y hy]
          | val k =>
            simp only [finRes] at h
            replace h := opt_some.1 h
            obtain ⟨s, hs, h⟩ := h
            replace h := opt_some.1 h
            obtain ⟨d, hd, h⟩ := h
            replace h := opt_some.1 h
            obtain ⟨y, hy, h⟩ := h
            simp [ih rs n slots objs y hy]
          | own e =>
            simp only [finRes] at h
            replace h := opt_some.1 h
            obtain ⟨s, hs, h⟩ := h
            cases s with
            | nil =>
              simp only at h
              cases hei : lk e E.tt with
              | none => rw [hei] at h; cases h
              | some ei =>
                rw [hei] at h
                replace h := cond_some.1 h
                obtain ⟨_, h⟩ := h
                replace h := opt_some.1 h
                obtain ⟨y, hy, h⟩ := h
                simp [ih rs n slots objs y hy]
            | own i =>
              simp only at h
              cases hob : objs i with
              | none => rw [hob] at h; cases h
              | some o =>
                rw [hob] at h
                cases o with
                | box _ _ => cases h
                | arr e' es =>
                  replace h := cond_some.1 h
                  obtain ⟨_, h⟩ := h
                  replace h := opt_some.1 h
                  obtain ⟨y, hy, h⟩ := h
                  simp [ih rs n slots _ y hy]
            | _ => cases h
  cases st with
  | mk n slots objs => exact key vs rs n slots objs x h

theorem nodupL_nd {l : List Nat} : nodupL l = true → l.Nodup := by
  induction l with
  | nil => intro _; exact .nil
  | cons x r ih =>
    intro h
    simp only [nodupL] at h
    cases hb : memN x r with
    | true => rw [hb] at h; cases h
    | false =>
      rw [hb] at h
      exact List.nodup_cons.2 ⟨memN_false hb, ih h⟩

theorem Tr_dis {T : List Tr} {R : Tr → Tr → Prop} (hp : T.Pairwise R) (hs : ∀ x y, R x y → R y x) {x y : Tr} (hx : x ∈ T) (hy : y ∈ T) (hne : x ≠ y) : R x y := by
  obtain ⟨i, hi, rfl⟩ := List.getElem_of_mem hx
  obtain ⟨j, hj, rfl⟩ := List.getElem_of_mem hy
  rw [List.pairwise_iff_getElem] at hp
  rcases Nat.lt_trichotomy i j with h | h | h
  · exact hp i j hi hj h
  · subst h; exact absurd rfl hne
  · exact hs _ _ (hp j i hj hi h)

/-- A function's end. -/
theorem fin_ret (hT : TTok P E.tt) {X : Nat → Prop} {w w' : World} {M : Mem} {pv : Nat → Option Value} {st : St} {a : Act} (h : SI E X w M pv st a w') {fn : Func} {ps : List PM} {rs : List RM} {vs : List Value}
    (hpv : ∀ p t cs, ps[p]? = some (.box t cs) → pv p = vs[p]? ∧ p < vs.length) {x : List D × (Nat → Option Obj)} {r : List D} (hf : finRes E st fn.results.toList rs = some x) (hb : finBoxes E st.slots ps 0 x.2 = some r) :
    ∃ v, (results fn a.tmps).run P w' = .ok v w' ∧ RetOK E X w M ps rs vs (x.1 ++ r) v w' := by
  obtain ⟨⟨ι, M', H, hs⟩, hwf, hsz, hdf, hpin⟩ := h
  cases st with
  | mk n slots objs =>
    have key := fun base => finRes_spec (P := P) (w := w') hT H.mem n slots hs base (x.1 ++ r) fn.results.toList rs 0 x.1 objs x.2 H.obj (fun i hi => by rw [Nat.zero_add, List.getD_eq_getElem?_getD, List.getD_eq_getElem?_getD, List.getElem?_append_left hi]) hf
    refine ⟨_, run_results w' (key 0).1, ?_⟩
    intro base bid svs os hr hnd
    obtain ⟨_, hlen, hres⟩ := key base
    obtain ⟨T1, k1, k2, k3, k4, k5⟩ := hres svs os hr
    obtain ⟨T2, objs', b1, b2, b3, b4⟩ := finBoxes_spec hT (w := w') bid (x.1 ++ r) ps 0 rs.length x.2 r hb (fun id o ho => H.obj id o (k3.sub id o ho)) (fun j hj => by
      rw [List.getD_eq_getElem?_getD, List.getD_eq_getElem?_getD, ← hlen, List.getElem?_append_right (Nat.le_add_right _ _), Nat.add_sub_cancel_left])
    subst k1
    rw [b1] at hnd ⊢
    rw [← osT_append] at hnd ⊢
    rw [keysT] at hnd
    have hnd := nodupL_nd hnd
    have S := k3.app b2
    have hall : ∀ y ∈ T1 ++ T2, TrOK E ι M' w' (T1 ++ T2) y := fun y hy => by
      rcases List.mem_append.1 hy with hy | hy
      · exact .inl (k2 y hy)
      · exact (b3 y hy).mono fun z hz => List.mem_append_right _ hz
    generalize hU : T1 ++ T2 = U at hnd S hall
    have hm1 : ∀ y ∈ T1, y ∈ U := fun y hy => by rw [← hU]; exact List.mem_append_left _ hy
    have hm2 : ∀ y ∈ T2, y ∈ U := fun y hy => by rw [← hU]; exact List.mem_append_right _ hy
    have hv : ∀ y ∈ U, valT U y.id = y.v := fun y hy => (valT_mem hnd hy).1
    refine ⟨valT U, M', ⟨?_, ?_, ?_, H.mem, H.memx, H.memB, H.os, H.tape, H.output, H.size, H.keep⟩, ?_, ?_, ?_⟩
    · intro id o ho
      obtain ⟨y, hy, rfl, rfl, e⟩ := lk_osT ho
      rcases hall y hy with ⟨e', es, ei, q1, q2, q3, q4⟩ | ⟨t, cs, d, ti, b, cc, i, q1, q2, q3, q4, q5, q6, q7, q8⟩
      · rw [q1]; exact ⟨ei, q2, q3, by rw [e]; exact q4⟩
      · rw [q1]
        refine ⟨ti, b, cc, q2, e.trans q3, q5, q6, by rw [mkCells_length, q7], fun j s u hj hu => ?_⟩
        rw [mkCells_get, Option.map_eq_some_iff] at hj
        obtain ⟨k, hk, rfl⟩ := hj
        have := q8 j k u hk (by simpa using hu)
        cases k with
        | val q =>
          have hc : Rep E.tt M' q u (d.cell (0 + j)) := this
          show Rep E.tt M' q u _
          rw [hc.canon]; exact hc
        | row e2 =>
          obtain ⟨z, z1, z2, z3, z4⟩ := this
          have := hv z z1
          rw [z2] at this
          exact ⟨by rw [this, z3], by rw [this, z3]; exact z4⟩
        | self =>
          rcases this with g | ⟨b', g1, g2⟩
          · exact .inl g
          · exact .inr ⟨b', by rw [e, q4]; exact g1, g2⟩
    · intro id id' o o' b h1 h2 hne hb1 hb2
      obtain ⟨y, hy, rfl, rfl, e⟩ := lk_osT h1
      obtain ⟨y', hy', rfl, rfl, e'⟩ := lk_osT h2
      rw [e] at hb1; rw [e'] at hb2
      have hdis := Tr_dis S.dis (fun x y hxy j hj hi => hxy j hi hj) hy hy' (fun e => hne (by rw [e]))
      rcases S.src y hy with ⟨_, g⟩ | ⟨j, o1, g1, g2, g3, g4⟩
      · rw [g] at hb1; cases hb1
      · rcases S.src y' hy' with ⟨_, g⟩ | ⟨j', o2, g1', g2', g3', g4'⟩
        · rw [g] at hb2; cases hb2
        · rw [g4] at hb1; rw [g4'] at hb2
          exact H.disj j j' o1 o2 b g2 g2' (fun e => hdis j g1 (by rw [g1', e])) hb1 hb2
    · intro id o b h1 hb1
      obtain ⟨y, hy, rfl, rfl, e⟩ := lk_osT h1
      rw [e] at hb1
      rcases S.src y hy with ⟨_, g⟩ | ⟨j, o1, g1, g2, g3, g4⟩
      · rw [g] at hb1; cases hb1
      · rw [g4] at hb1; exact H.own j o1 b g2 hb1
    · have k1 : ∀ (i : Nat) (s : SV) (u : Value), svs[i]? = some s → (fn.results.toList.map (resVal P w' a.tmps))[i]? = some u → SVRel0 E.tt (valT U) M' s u := by
        intro i s u h1 h2
        rcases k5 i s u h1 h2 with ⟨k, d, rfl, g⟩ | ⟨z, z1, rfl, z3, z4⟩ | rfl
        · exact g
        · have := hv z (hm1 z z1)
          exact ⟨by rw [this, z3], by rw [this, ← z3]; exact z4⟩
        · exact trivial
      have k8 : svs.length = (fn.results.toList.map (resVal P w' a.tmps)).length := by rw [k4, List.length_map]
      generalize fn.results.toList.map (resVal P w' a.tmps) = us at k1 k8
      have htup : SVRel E.tt (valT U) M' (.tup svs) (.tuple us.toArray) := ⟨us, rfl, k8.symm, k1⟩
      match svs, us, k8, k1, htup with
      | [], [], _, _, htup => exact htup
      | [s], [u], _, k1, _ => exact .of0 (k1 0 s u rfl rfl)
      | _ :: _ :: _, _ :: _ :: _, _, _, htup => exact htup
    · intro i hi
      have hi : ∃ s ∈ svs, i ∈ refs0 s := by
        obtain ⟨_, _, n3, _, n5⟩ := resSV_spec rs base 0 _ svs _ hr
        have : i ∈ refsL svs := by
          match svs, hi, n3, n5 with
          | [], hi, _, _ => exact hi
          | [s], hi, n3, n5 =>
            simp only [refsL, List.append_nil]
            cases s with
            | tup t => exact absurd List.mem_cons_self (n3 t)
            | sag t ks l => exact absurd List.mem_cons_self (n5 t ks l)
            | _ => exact hi
          | _ :: _ :: _, hi, _, _ => exact hi
        exact mem_refsL.1 this
      obtain ⟨s, h1, h2⟩ := hi
      exact (resSV_spec rs base 0 _ svs _ hr).2.1 s h1 i h2
    · intro p t cs hp
      obtain ⟨⟨y, y1, y2, y3⟩, q2, b, q3⟩ := b4 p t cs hp
      rw [Nat.zero_add] at y2 y3 q2 q3
      have e1 := hv y (hm2 y y1)
      rw [y2] at e1
      obtain ⟨p1, p2⟩ := hpv p t cs hp
      have hsl : ∃ u k, slots p = some (.bptr p u 0 k) := by
        unfold isPar at q2
        split at q2
        · rename_i j u off k hsl
          simp only [Bool.and_eq_true] at q2
          have a1 := beq_iff.1 q2.1
          have a2 := beq_iff.1 q2.2
          subst a1 a2
          exact ⟨u, k, hsl⟩
        · cases q2
      obtain ⟨u, k, hsl⟩ := hsl
      obtain ⟨_, b', c1, c2⟩ := hs p _ hsl
      rw [q3] at c1; injection c1 with c1; injection c1 with c1; injection c1 with c1
      have hpp := hpin p vs[p] (by rw [p1]; exact List.getElem?_eq_getElem p2)
      rw [List.getElem?_eq_getElem p2, e1, y3, q3, ← hpp, c2, c1]

structure EnvOK (P : Program) (E : Env) (W0 : World) : Prop where
  mixed : P.follows .mixedOrders = true
  tt : TTok P E.tt
  fns : ∀ f fn, lk f E.fns = some fn → FnOK P E f fn
  ext : ∀ f g, lk f E.ext = some g → ∀ sg ds r, lk f E.sigs = some sg → g ds = some r → ∀ (w : World) (M : Mem) (vs : List Value) (X : Nat → Prop), Same W0 w → (∀ b, X b → W0.heap.size ≤ b) → ArgsOK E X w M sg.params vs ds →
    CallsF P f vs.toArray w (RetOK E X w M sg.outs sg.results vs r)

theorem boxPs_mem : ∀ (ps : List PM) (i q : Nat) (t : TypeId) (cs : List CK), ps[q]? = some (.box t cs) → (i + q) ∈ boxPs ps i := by
  intro ps
  induction ps with
  | nil => intro i q t cs h; simp at h
  | cons p r ih =>
    intro i q t cs h
    cases q with
    | zero => simp at h; subst h; exact List.mem_cons_self
    | succ q =>
      have := ih (i + 1) q t cs (by simpa using h)
      rw [show i + 1 + q = i + (q + 1) by omega] at this
      cases p with
      | box _ _ => exact List.mem_cons_of_mem _ this
      | _ => exact this

theorem run_sound {W0 : World} (hE : EnvOK P E W0) : ∀ k, CallOK P E W0 (run E k) := by
  intro k
  induction k with
  | zero => intro f sg ds r _ h; cases h
  | succ k ih =>
    intro f sg ds r hsg h w M vs X hS hX hargs
    simp only [run] at h
    cases hx : lk f E.ext with
    | some g => rw [hx] at h; exact hE.ext f g hx sg ds r hsg h w M vs X hS hX hargs
    | none =>
      rw [hx] at h
      obtain ⟨fn, hfn, h⟩ := opt_some.1 h
      obtain ⟨sg', hsg', h⟩ := opt_some.1 h
      rw [hsg] at hsg'; injection hsg' with hsg'; subst hsg'
      obtain ⟨c, hc, h⟩ := opt_some.1 h
      replace h := opt_some.1 h
      obtain ⟨sl, hsl, h⟩ := h
      replace h := opt_some.1 h
      obtain ⟨st, hst, h⟩ := h
      have hF := hE.fns f fn hfn
      obtain ⟨hlen, sl1, sl2, ι, hp, H, hslots, hcells⟩ := hargs
      rw [hsl] at hp; injection hp with hp; subst hp
      have hsize : vs.length ≤ fn.ntmps := by rw [hlen]; exact hF.size sg hsg
      let pv : Nat → Option Value := fun p => cond (memN p (boxPs sg.params 0)) vs[p]? none
      have hpv : ∀ p v, pv p = some v → p ∈ boxPs sg.params 0 := fun p v hp => by
        cases hb : memN p (boxPs sg.params 0) with
        | true => exact memN_iff.1 hb
        | false => simp only [pv, hb] at hp; cases hp
      have hpv2 : ∀ p t cs, sg.params[p]? = some (.box t cs) → pv p = vs[p]? ∧ p < vs.length := fun p t cs hp => by
        refine ⟨?_, by rw [hlen]; exact (List.getElem?_eq_some_iff.1 hp).1⟩
        have := boxPs_mem sg.params 0 p t cs hp
        rw [Nat.zero_add] at this
        simp only [pv, memN_iff.2 this, cond_true]
      left
      refine ⟨?_, calls_of_wp hF.get hc ?_⟩
      · have h1 := hF.get
        have h2 : ¬ fn.name = "runtime.NumGoroutine" := by simpa using hF.name
        simp [callFunc, h1, h2, hc]
      · have hev : ∀ t v, vs[t]? = some v → Act.eval { tmps := vs.toArray ++ Array.replicate (fn.ntmps - vs.toArray.size) undef, defers := [] } (.tmp t) = v := by
          intro t v hv
          have hlt : t < vs.length := (List.getElem?_eq_some_iff.1 hv).1
          simp only [Act.eval, Array.getD_eq_getD_getElem?]
          rw [Array.getElem?_append_left (by simpa using hlt)]
          simp [hv]
        have hSI : SI E X w M pv ⟨fn.ntmps, fun t => lk t sl1, fun i => lk i sl2⟩ { tmps := vs.toArray ++ Array.replicate (fn.ntmps - vs.toArray.size) undef, defers := [] } w := by
          refine ⟨⟨ι, M, H, ?_⟩, ⟨fun t s ht i hi => (hslots t s ht).2 i hi, fun j o hj i hi => hcells j o hj i hi⟩, ?_, rfl, ?_⟩
          · intro t s ht
            obtain ⟨⟨v, hv, hrep⟩, _⟩ := hslots t s ht
            rw [hev t v hv]; exact hrep
          · simp; omega
          · intro p v hp
            refine hev p v ?_
            cases hb : memN p (boxPs sg.params 0) with
            | true => simp only [pv, hb, cond_true] at hp; exact hp
            | false => simp only [pv, hb] at hp; cases hp
        have hfin : ∀ st' a' w', SI E X w M pv st' a' w' → finK E fn sg .normal st' = some r → a'.defers = [] ∧ ∃ v, (results fn a'.tmps).run P w' = .ok v w' ∧ RetOK E X w M sg.outs sg.results vs r v w' := by
          intro st' a' w' h' hk
          unfold finK at hk
          have hgn : sg.gone = false := by
            cases hg : sg.gone with
            | true => rw [hg] at hk; cases hk
            | false => rfl
          have ho : sg.outs = sg.params := by unfold Sig.outs; rw [hgn]; rfl
          rw [hgn] at hk
          simp only [cond_false] at hk
          obtain ⟨st2, h2, hk⟩ := opt_some.1 hk
          obtain ⟨st3, h3, hk⟩ := opt_some.1 hk
          obtain ⟨x, hx, hk⟩ := opt_some.1 hk
          obtain ⟨rb, hrb, hk⟩ := opt_some.1 hk
          injection hk with hk; subst hk
          obtain ⟨v, h1, h3⟩ := fin_ret hE.tt (frzBoxes_sound _ _ _ (frzSlots_sound _ _ _ h' h2) h3) hpv2 hx hrb
          rw [ho]
          exact ⟨h'.defers, v, h1, h3⟩
        refine exec_sound hE.mixed hE.tt hS hX ih hpv c (hF.code c hc) (hF.pins sg hsg c hc) _ _ r st _ w (normAt_sound hSI hst) h ?_
        intro e st' a' w' h' hk
        cases e with
        | normal => exact hfin st' a' w' h' hk
        | exit i => cases hk
        | ret => exact hfin st' a' w' h' hk

end
end Go.Proofs.YtjofkhdnidjleabDoor.DS
