/- The data-level semantics: plain data, an interpreter of the program over them, and its soundness; part 5. -/
import Derived.Test.YthbncndefigidaaDoorF4
set_option linter.unusedVariables false
set_option linter.unusedSimpArgs false
namespace Go.Proofs.YthbncndefigidaaDoor.DS

/-- Memory, a block's cells being data now. -/
def addBlock (M : Mem) (b : Nat) (cur : Array Value) : Mem := fun ad => match M ad with
  | some v => some v
  | none => if ad.block = b ∧ ad.spot = none then cur[ad.off]? else none

theorem addBlock_sub {M : Mem} {b : Nat} {cur : Array Value} {ad : Addr} {v : Value} (h : M ad = some v) : addBlock M b cur ad = some v := by
  simp only [addBlock, h]
theorem addBlock_other {M : Mem} {b : Nat} {cur : Array Value} {ad : Addr} (h : ad.block ≠ b) : addBlock M b cur ad = M ad := by
  simp only [addBlock]
  cases M ad with
  | some v => rfl
  | none => simp [h]

/-- A row that is data: its handle holds the data. -/
theorem frz_rep {tt : TT} {M : Mem} {w : World} {e : TypeId} {ei : TI} (he : lk e tt = some ei) {v : Value} {es : List D} (h : ArrRel tt M w e ei v es) (hfree : ∀ b, blockOf v = some b → ∀ off sp, M ⟨b, off, sp⟩ = none) :
    ∃ M', (∀ ad x, M ad = some x → M' ad = some x) ∧ (∀ ad, blockOf v ≠ some ad.block → M' ad = M ad) ∧ (∀ ad x, M' ad = some x → M ad = some x ∨ w.cell? ad = some x) ∧ Rep tt M' (.slice e) v (.list es) := by
  rcases h with ⟨rfl, rfl⟩ | ⟨b, cap, cur, t, fr, vs, rfl, hh, h3, h4, h5, _, h7⟩
  · exact ⟨M, fun _ _ h => h, fun _ _ => rfl, fun _ _ h => .inl h, .nil e none 0 (Nat.zero_le _)⟩
  · refine ⟨addBlock M b cur, fun _ _ h => addBlock_sub h, fun ad h => addBlock_other (fun e => h (by rw [← e]; rfl)), ?_, ?_⟩
    · intro ad x hx
      simp only [addBlock] at hx
      cases hm : M ad with
      | some v => rw [hm] at hx; exact .inl hx
      | none =>
        rw [hm] at hx
        simp only at hx
        split at hx
        · rename_i hc
          obtain ⟨h1, h2⟩ := hc
          right
          cases ad with
          | mk bb off sp =>
            simp only at h1 h2 hx
            subst h1 h2
            simpa [World.cell?, hh] using hx
        · cases hx
    · cases es with
      | nil => exact .nil e _ cap h4
      | cons x r =>
        refine .slice e ei ⟨b, 0, none⟩ cap (x :: r) (fun i => vs i) (by simp) h3 h4 he rfl (fun i hi => (h7 i hi).1) ?_ (fun i hi => ((h7 i hi).2.2).mono (fun _ _ h => addBlock_sub h))
        intro i j u hi hu
        have := (h7 i hi).2.1 j u hu
        simp only [addBlock, Nat.zero_add]
        rw [hfree b rfl]
        simp only [and_self, if_true]
        exact this


section
variable {P : Program} {E : Env} {X : Nat → Prop} {w0 w w' : World} {Mx : Mem} {pv : Nat → Option Value} {done : Nat → Prop} {st : St} {a : Act} {draw : Bool}

def fullM (w : World) : Mem := fun ad => w.cell? ad
theorem arr_full {tt : TT} {M : Mem} {e : TypeId} {ei : TI} (he : lk e tt = some ei) {v : Value} {es : List D} (h : ArrRel tt M w e ei v es) (hM : ∀ ad u, M ad = some u → w.cell? ad = some u) : Rep tt (fullM w) (.slice e) v (.list es) := by
  rcases h with ⟨rfl, rfl⟩ | ⟨b, cap, cur, t, fr, vs, rfl, hh, h1, h2, h3, h4, h5⟩
  · exact .nil _ _ _ (Nat.zero_le _)
  · cases es with
    | nil => exact .nil _ _ _ h2
    | cons x r =>
      refine .slice e ei ⟨b, 0, none⟩ cap (x :: r) vs (by simp) h1 h2 he rfl (fun i hi => (h5 i hi).1) (fun i j u hi hu => ?_) (fun i hi => ((h5 i hi).2.2).mono hM)
      have := (h5 i hi).2.1 j u hu
      simp only [fullM, World.cell?, hh, Nat.zero_add]
      exact this
theorem args_rel {ops : List Oper} {L : List (Nat × Bool)} {b : Bool} {ι : Nat → Value} {M M1 : Mem} (hev : ∀ x s, ev st ops L x = some s → SVRel E.tt ι M s (a.eval x)) (H : HRel E.tt X w0 Mx ι M st.objs w) (h1 : ∀ ad v, M ad = some v → M1 ad = some v) (h2 : b = true → M1 = fullM w) :
    ∀ (ps : List PM) (xs : List Operand) (ds : List D), argsO st ops L b ps xs = some ds → ArgsRep E.tt M1 ps (xs.map a.eval) ds := by
  intro ps
  induction ps with
  | nil =>
    intro xs ds h
    cases xs with
    | nil => injection h with h; subst h; trivial
    | cons x r => cases h
  | cons p ps ih =>
    intro xs ds h
    cases xs with
    | nil => cases p <;> cases h
    | cons x r =>
      cases p with
      | val k =>
        simp only [argsO] at h
        replace h := opt_some.1 h
        obtain ⟨s, hs, h⟩ := h
        replace h := opt_some.1 h
        obtain ⟨d, hd, h⟩ := h
        replace h := opt_some.1 h
        obtain ⟨q, hq, h⟩ := h
        injection h with h; subst h
        refine ⟨?_, ih r q hq⟩
        have hsv := hev x s hs
        cases s with
        | own i =>
          simp only [argD] at hd
          replace hd := cond_some.1 hd
          obtain ⟨hb, hd⟩ := hd
          rw [h2 hb]
          obtain ⟨hv, _⟩ : a.eval x = ι i ∧ _ := hsv
          cases k with
          | slice e =>
            cases hob : st.objs i with
            | none => rw [hob] at hd; cases hd
            | some o =>
              rw [hob] at hd
              cases o with
              | map _ _ => cases hd
              | box _ _ => cases hd
              | arr e' es =>
                replace hd := cond_some.1 hd
                obtain ⟨he, hd⟩ := hd
                have he := beq_iff.1 he
                subst he
                injection hd with hd; subst hd
                obtain ⟨ei, g1, _, g3⟩ := H.obj i _ hob
                show Rep E.tt (fullM w) (.slice e) (a.eval x) (.list es)
                rw [hv]
                exact arr_full g1 g3 H.mem
          | _ => cases hd
        | val k' d' => exact (svD_rel (s := .val k' d') hd hsv).mono h1
        | nil => exact (svD_rel (ι := ι) (M := M) (s := .nil) hd hsv).mono h1
        | sag t' ks l => exact (svD_rel (s := .sag t' ks l) hd hsv).mono h1
        | _ => simp [argD, svD, svD1] at hd
      | _ => cases h

theorem argsC_box {ops : List Oper} {L : List (Nat × Bool)} {id : Nat} : ∀ {ps : List PM} {xs : List Operand} {ds : List D}, argsC E st ops L id ps xs = some ds → noBoxP ps = true := by
  intro ps
  induction ps with
  | nil => intro xs ds _; rfl
  | cons p ps ih =>
    intro xs ds h
    cases p with
    | val k =>
      cases xs with
      | nil => cases ps <;> cases h
      | cons x xs =>
        simp only [argsC] at h
        obtain ⟨s, _, h⟩ := opt_some.1 h
        obtain ⟨d, _, h⟩ := opt_some.1 h
        obtain ⟨r, hr, h⟩ := opt_some.1 h
        exact ih hr
    | ref k =>
      cases ps with
      | nil => rfl
      | cons _ _ => cases xs <;> cases h
    | _ => cases xs <;> cases ps <;> cases h
theorem refD_rel {P : Program} {ι : Nat → Value} {M : Mem} (hT : TTok P E.tt) (H : HRel E.tt X w0 Mx ι M st.objs w) {id : Nat} {k : KT} {d : D} (h : refD E st id k = some d) : SVRel0 E.tt (fun _ => undef) (fullM w) (.eptr k d) (ι id) := by
  unfold refD at h
  split at h
  · rename_i u d' hob
    obtain ⟨ui, hui, h⟩ := opt_some.1 h
    obtain ⟨hk, h⟩ := cond_some.1 h
    have hk := KT.eq_iff.1 hk
    injection h with h; subst h
    obtain ⟨ti, b, cs, g1, g2, g3, _, g4⟩ := H.obj id _ hob
    rw [hui] at g1; injection g1 with g1; subst g1
    refine ⟨⟨b, 0, none⟩, .agg cs, u, ui, g2, rfl, hui, hk, ?_, fun j c hj => ?_⟩
    · rw [← hk]; exact g4.mono H.mem
    · simp only [fullM, World.cell?, g3, Nat.zero_add]
      exact hj
  · rename_i u s hob
    obtain ⟨ui, hui, h⟩ := opt_some.1 h
    obtain ⟨hk, h⟩ := cond_some.1 h
    simp only [Bool.and_eq_true] at hk
    have hk1 := KT.eq_iff.1 hk.1
    obtain ⟨ti, b, cs, g1, g2, g3, g4, g5, g6⟩ := H.obj id _ hob
    rw [hui] at g1; injection g1 with g1; subst g1
    have hlen : cs.size = 1 := by rw [g4, ← g5]; rfl
    have hrep : Rep E.tt M k (cs[0]'(by omega)) d := svD_rel h (.of0 (g6 0 s _ rfl (Array.getElem?_eq_getElem (by omega))))
    have hsing : k.single = true := by have := hk.2; cases k <;> first | rfl | cases this
    refine ⟨⟨b, 0, none⟩, cs[0]'(by omega), u, ui, g2, rfl, hui, hk1, hrep.mono H.mem, fun j c hj => ?_⟩
    rw [(hrep.cells_single hsing).1] at hj
    have hj0 : j = 0 := by
      have := (Array.getElem?_eq_some_iff.1 hj).1
      simp at this; exact this
    subst hj0
    simp at hj
    simp only [fullM, World.cell?, g3, Nat.zero_add]
    rw [← hj]; exact Array.getElem?_eq_getElem (by omega)
  · cases h
theorem argsC_rel {P : Program} {ops : List Oper} {L : List (Nat × Bool)} {ι : Nat → Value} {M : Mem} (hT : TTok P E.tt) (hev : ∀ x s, ev st ops L x = some s → SVRel E.tt ι M s (a.eval x)) (H : HRel E.tt X w0 Mx ι M st.objs w) {id : Nat} :
    ∀ (ps : List PM) (xs : List Operand) (ds : List D), argsC E st ops L id ps xs = some ds → ArgsRep E.tt (fullM w) ps (xs.map a.eval ++ [ι id]) ds := by
  intro ps
  induction ps with
  | nil => intro xs ds h; cases xs <;> cases h
  | cons p ps ih =>
    intro xs ds h
    cases p with
    | val k =>
      cases xs with
      | nil => cases ps <;> cases h
      | cons x xs =>
        simp only [argsC] at h
        obtain ⟨s, hs, h⟩ := opt_some.1 h
        obtain ⟨d, hd, h⟩ := opt_some.1 h
        obtain ⟨r, hr, h⟩ := opt_some.1 h
        injection h with h; subst h
        have h1 : argsO st ops L true [.val k] [x] = some [d] := by simp only [argsO, hs, hd, opt]
        exact ⟨(args_rel hev H (M1 := fullM w) H.mem (fun _ => rfl) [.val k] [x] [d] h1).1, ih xs r hr⟩
    | ref k =>
      cases ps with
      | nil =>
        cases xs with
        | nil =>
          simp only [argsC] at h
          obtain ⟨d, hd, h⟩ := opt_some.1 h
          injection h with h; subst h
          exact ⟨refD_rel hT H hd, trivial⟩
        | cons _ _ => cases h
      | cons _ _ => cases xs <;> cases h
    | _ => cases xs <;> cases ps <;> cases h

theorem undef_ne_bool (b : Bool) : (undef : Value) ≠ .bool b := by unfold undef; intro h; cases h

theorem op_sound0 {callk : Nat → List D → R} (hT : TTok P E.tt) {W0 : World} (hS : Same W0 w0) (hX : ∀ b, X b → W0.heap.size ≤ b) (hcall : CallOK P E W0 callk) {ops : Array Oper} (hn : nodupN (dstsOf ops.toList) = true) (hg : guardsOk ops.toList draw = true) {i : Nat} {o : Oper}
    (hi : nthOp ops.toList i = some o) (hnd : ¬ done i) (hdep : ∀ j w, o.guard = some (j, w) → done j) (hpd : ∀ t, o.dst = some t → pv t = none) (h : RI E X w0 Mx pv ops.toList done st a w) {p : Option Nat × Upd} {st' : St}
    (hp : evalU E callk ops.toList draw i st = some p) (hnh : isH E ops.toList draw i st = false) (hu : applyU st p.1 p.2 = some st') {Q : Exit → Act → World → Prop} {next : Act → World → Prop}
    (hnext : ∀ a' w', RI E X w0 Mx pv ops.toList (fun k => done k ∨ k = i) st' a' w' → next a' w') : wpOp P ops Q i next a w := by
  obtain ⟨⟨ι, M, H, hs⟩, hgi, hcl, hwf, hsz, hdf, hpin⟩ := h
  have hi' : ops[i]? = some o := by rw [← nthOp_toList]; exact hi
  have hconst : ∀ v s, constSV v = some s → SVRel E.tt ι M s v := fun v s h => .of0 (const_rel h)
  have hwant := wanted_iff (draw := draw) hg hgi hi hdep
  have hgB := guardB_iff (E := E) hn hg hs (i + 1) i o (by omega) hi
  have hev : ∀ L, HoldsL a L → ∀ x s, ev st ops.toList L x = some s → SVRel E.tt ι M s (a.eval x) := fun L hL x s h => ev_rel hn hs hL hconst h
  have hevp : ∀ L, HoldsL a L → ∀ tc b x s, a.eval (.tmp tc) = .bool b → evPick st ops.toList L tc b x = some s → SVRel E.tt ι M s (a.eval x) := fun L hL tc b x s hc h => evPick_rel hn hs hL hconst hc h
  have hself : ∀ t s1, st.slots t = some s1 → ∃ s0, st.slots t = some s0 ∧ ∀ v0, SVRel E.tt ι M s0 v0 → SVRel E.tt ι M s1 v0 := fun t s1 h => ⟨s1, h, fun _ h => h⟩
  -- an operation that is carried out, the world as it was
  have stepSv : ∀ {v : SV} {u : Value}, HoldsL a (chainOf ops.toList i) → (∀ i, i ∈ refsOf v → ∃ o, st.objs i = some o) → SVRel E.tt ι M v u → applyU st o.dst ⟨v, none, []⟩ = some st' → next (a.put o.dst u) w := by
    intro v u hL hr hv hput
    exact hnext _ _ (ri_step hn hg hi hnd hdep hs hgi hcl hsz hdf hpin hpd (s := st) ⟨ι, M, H, hself, fun _ => hv⟩ rfl hwf hr (fun _ _ => hL) hput)
  have stepNo : ∀ {v : SV}, ¬ HoldsL a (chainOf ops.toList i) → (∀ i, i ∈ refsOf v → ∃ o, st.objs i = some o) → applyU st o.dst ⟨v, none, []⟩ = some st' → next (a.put o.dst undef) w := by
    intro v hL hr hput
    exact hnext _ _ (ri_step hn hg hi hnd hdep hs hgi hcl hsz hdf hpin hpd (s := st) ⟨ι, M, H, hself, fun h => absurd h hL⟩ rfl hwf hr (fun b hb => absurd hb (undef_ne_bool b)) hput)
  have stepSt : ∀ {id : Nat} {ob : Obj} {scr : Bool} {v : SV}, HoldsL a (chainOf ops.toList i) → Does P E.tt X w0 Mx ι M a w o st (obSt st id ob scr) v → applyU st o.dst ⟨v, some (id, ob, scr), []⟩ = some st' → o.wp P a w next Q := by
    intro id ob scr v hL hd hput
    obtain ⟨u, w', hrun, ι', H', hsl, hv, hn', hwf', hr'⟩ := hd
    have := hnext _ _ (ri_step (u := u) hn hg hi hnd hdep hs hgi hcl hsz hdf hpin hpd (s := obSt st id ob scr) ⟨ι', M, H', hsl, fun _ => hv⟩ hn' hwf' hr' (fun _ _ => hL) hput)
    unfold Oper.wp
    rcases hrun with hrun | ⟨hrun, rfl⟩
    · rw [hrun]; exact this
    · rw [hrun]; exact this
  have stepNew : ∀ {L : List (Nat × Bool)} {id : Nat} {e : TypeId} {es : List D}, HoldsL a (chainOf ops.toList i) → HoldsL a L → opO E draw st ops.toList L o = some (.ob true id (.arr e es) false (.own id)) → st.objs id = none → applyU st o.dst ⟨.val (.slice e) (.list es), none, []⟩ = some st' → o.wp P a w next Q := by
    intro L id e es hL hL' ho hno hput
    obtain ⟨u, w', hrun, ι', H', hsl, hv, _, _, _⟩ := st_sound hT (hev L hL') H hwf ho rfl
    have hobs : ∀ i o', st.objs i = some o' → i ≠ id ∧ (obSt st id (.arr e es) false).objs i = some o' := by
      intro i o' h
      have hne : i ≠ id := fun e => by subst e; rw [hno] at h; cases h
      exact ⟨hne, (put_other _ _ _ hne).trans h⟩
    have hid : (obSt st id (.arr e es) false).objs id = some (.arr e es) := put_same _ _ _
    obtain ⟨ei, he, _, har⟩ := H'.obj id _ hid
    obtain ⟨M', hM, hMo, hMc, hr⟩ := frz_rep he har (fun b hb off sp => (H'.own id _ b hid hb).2 off sp)
    obtain ⟨rfl, _⟩ : u = ι' id ∧ _ := hv
    have Hn : HRel E.tt X w0 Mx ι' M' st.objs w' := by
      refine ⟨?_, ?_, ?_, ?_, fun ad v h => hM ad v (H'.memx ad v h), ?_, H'.os, H'.tape, H'.output, H'.size, H'.keep⟩
      · intro i o' h
        exact (H'.obj i o' (hobs i o' h).2).congr rfl (fun _ _ => rfl) hM (fun _ _ => rfl)
      · intro i j oi oj b hi hj hij hbi hbj
        exact H'.disj i j oi oj b (hobs i oi hi).2 (hobs j oj hj).2 hij hbi hbj
      · intro i o' b h hb
        obtain ⟨hi, ho'⟩ := hobs i o' h
        obtain ⟨q1, q2⟩ := H'.own i o' b ho' hb
        refine ⟨q1, fun off sp => ?_⟩
        rw [hMo ⟨b, off, sp⟩ (fun e => H'.disj i id o' _ b ho' hid hi hb e)]
        exact q2 off sp
      · intro ad v hv
        rcases hMc ad v hv with h | h
        · exact H'.mem ad v h
        · exact h
      · intro ad hb hX
        rw [hMo ad (fun e => ?_)]
        · exact H'.memB ad hb hX
        · rcases (H'.own id _ ad.block hid e).1 with h | h
          · omega
          · exact hX h
    have hsl2 : ∀ t s1, st.slots t = some s1 → ∃ s0, st.slots t = some s0 ∧ ∀ v0, SVRel E.tt ι M s0 v0 → SVRel E.tt ι' M' s1 v0 := by
      intro t s1 ht
      obtain ⟨s0, h0, h1⟩ := hsl t s1 ht
      exact ⟨s0, h0, fun v0 hv0 => (h1 v0 hv0).congr (fun _ _ => rfl) hM⟩
    have := hnext _ _ (ri_step (u := ι' id) hn hg hi hnd hdep hs hgi hcl hsz hdf hpin hpd (s := st) ⟨ι', M', Hn, hsl2, fun _ => hr⟩ rfl hwf (v := .val (.slice e) (.list es)) (fun i hi => by cases hi) (fun _ _ => hL) hput)
    unfold Oper.wp
    rcases hrun with hrun | ⟨hrun, hun⟩
    · rw [hrun]; exact this
    · rw [hrun]; rw [hun] at this; exact this
  have stepCall : ∀ {L : List (Nat × Bool)} {f : Nat} {ds : List D} {rs : List RM} {r : List D} {u : Upd}, HoldsL a (chainOf ops.toList i) → HoldsL a L → opO E draw st ops.toList L o = some (.call f ds rs) → callk f ds = some r → resUpd st rs o.dst r = some u →
      applyU st o.dst u = some st' → o.wp P a w next Q := by
    intro L f ds rs r u hL hL' ho hr hres hput
    obtain ⟨c, sg, hop, hsg, rfl, hcase⟩ := call_inv ho
    have hSw := H.same hS hX
    have hC0 : ∀ vs, (flatR sg.results = false ∧ ArgsRep E.tt M sg.params vs ds ∨ flatR sg.results = true ∧ ArgsRep E.tt (fullM w) sg.params vs ds) → noBoxP sg.params = true → CallsF P f vs.toArray w (RetV E w M sg.results r) := by
      intro vs hrep hvp
      rcases hrep with ⟨hfl, hrep⟩ | ⟨hfl, hrep⟩
      · exact (hcall f sg ds r hsg hr w M _ (fun _ => False) hSw (fun b h => h.elim) (argsOK_of hrep H.mem)).mono fun v w' hret => ret_vals (noBox_outs hvp) hret
      · exact (hcall f sg ds r hsg hr w (fullM w) _ (fun _ => False) hSw (fun b h => h.elim) (argsOK_of hrep (fun _ _ h => h))).mono fun v w' hret => ret_flat hfl H.mem (fun _ _ h => h) (ret_vals (noBox_outs hvp) hret)
    obtain ⟨vs, hC, hexec⟩ : ∃ vs : Array Value, CallsF P f vs w (RetV E w M sg.results r) ∧ (execOp a.eval o).run P w = (callFunc f vs).run P w := by
      rcases hcase with ⟨hcal, hargs⟩ | ⟨t, id, hcal, hclo, hfl, hargs⟩
      · refine ⟨(c.args.toList.map a.eval).toArray, hC0 _ ?_ (noBox_of_val (allValP_args hargs)), ?_⟩
        · cases hfl : flatR sg.results with
          | false =>
            rw [hfl] at hargs
            exact .inl ⟨rfl, args_rel (hev L hL') H (M1 := M) (fun _ _ h => h) (fun h => by cases h) sg.params c.args.toList ds hargs⟩
          | true =>
            rw [hfl] at hargs
            exact .inr ⟨rfl, args_rel (hev L hL') H (M1 := fullM w) H.mem (fun _ => rfl) sg.params c.args.toList ds hargs⟩
        · have hvals : (c.args.toList.map a.eval).toArray = c.args.map a.eval := by
            apply Array.toList_inj.1; simp
          rw [hvals]
          simp [execOp, hop, resolve, hcal, Act.eval, Deferred.ofValue, invoke]
      · obtain ⟨b, hb, hv⟩ := hev L hL' _ _ hclo
        refine ⟨(c.args.toList.map a.eval ++ [ι id]).toArray, hC0 _ (.inr ⟨hfl, argsC_rel hT (hev L hL') H sg.params c.args.toList ds hargs⟩) (argsC_box hargs), ?_⟩
        have hvals : (c.args.toList.map a.eval ++ [ι id]).toArray = c.args.map a.eval ++ #[.pointer (some ⟨b, 0, none⟩)] := by
          rw [hb]
          apply Array.toList_inj.1; simp
        rw [hvals]
        simp [execOp, hop, resolve, hcal, hv, Deferred.ofValue, invoke]
    have hfin : ∀ v w', RetV E w M sg.results r v w' → next (a.put o.dst v) w' := by
      intro v w' hret
      obtain ⟨hob, hleft⟩ := ret_left H hwf hret hres
      obtain ⟨⟨ι', M', H', hsl, hv⟩, hn', hwf', hr'⟩ := hleft
      refine hnext _ _ (ri_step (u := v) hn hg hi hnd hdep hs hgi hcl hsz hdf hpin hpd (s := { st with objs := putAll st.objs u.obs }) ⟨ι', M', H', hsl, fun _ => hv⟩ hn' hwf' hr' (fun _ _ => hL) ?_)
      unfold applyU at hput
      rw [hob] at hput
      simp only at hput
      revert hput
      cases u.obs with
      | nil => exact id
      | cons _ _ => exact id
    unfold Oper.wp
    rw [hexec]
    rcases hC with ⟨hrun, hC⟩ | ⟨v, w', hrun, hret⟩
    · rw [hrun]
      refine Calls.mono hC ?_
      intro e w' he
      cases e with
      | returned v => exact hfin v w' he
      | panicked c => exact he.elim
      | outgrown => exact he.elim
    · rw [hrun]
      exact hfin v w' hret
  unfold wpOp
  rw [hi']
  simp only
  unfold evalU at hp
  rw [hi] at hp
  simp only at hp
  cases hc : chainOf ops.toList i with
  | nil =>
    have hL : HoldsL a (chainOf ops.toList i) := by rw [hc]; intro p hp; cases hp
    rw [if_pos (hwant.2 hL)]
    rw [hc] at hp
    simp only at hp
    left
    have hL0 : HoldsL a [] := fun p hp => by cases hp
    cases ho : opO E draw st ops.toList [] o with
    | none => rw [ho] at hp; cases hp
    | some out =>
      rw [ho] at hp
      cases out with
      | sv c v =>
        obtain ⟨hcc, hp⟩ := cond_some.1 hp
        injection hp with hp; subst hp
        obtain ⟨u, hrun, hv⟩ := sv_sound hT (hev [] hL0) (hevp [] hL0) H.obj H.mem ho hcc
        unfold Oper.wp
        rw [hrun]
        exact stepSv hL (sv_there hwf ho) hv hu
      | ob c id ob scr v =>
        obtain ⟨hcc, hp⟩ := cond_some.1 hp
        injection hp with hp; subst hp
        exact stepSt hL (st_sound hT (hev [] hL0) H hwf ho hcc) hu
      | call f ds rs =>
        obtain ⟨_, hp⟩ := cond_some.1 hp
        obtain ⟨r, hr, hp⟩ := opt_some.1 hp
        obtain ⟨u, hres, hp⟩ := opt_some.1 hp
        injection hp with hp; subst hp
        exact stepCall hL hL0 ho hr hres hu
      | hcall _ _ _ _ _ =>
        unfold isH at hnh
        rw [hi] at hnh
        simp only at hnh
        rw [hc] at hnh
        simp only at hnh
        rw [ho] at hnh
        cases hnh
  | cons q L =>
    rw [hc] at hp
    simp only at hp
    obtain ⟨hth, hp⟩ := cond_some.1 hp
    replace hgB := hgB (by rw [hc]; exact hth)
    rw [← hc] at hp
    cases ho : opO E draw st ops.toList (chainOf ops.toList i) o with
    | none => rw [ho] at hp; cases hp
    | some out =>
      rw [ho] at hp
      by_cases hL : HoldsL a (chainOf ops.toList i)
      · rw [if_pos (hwant.2 hL)]
        have hgb := hgB.2 hL
        rw [hgb] at hp
        left
        cases out with
        | sv c v =>
          obtain ⟨hcc, hp⟩ := cond_some.1 hp
          injection hp with hp; subst hp
          obtain ⟨u, hrun, hv⟩ := sv_sound hT (hev _ hL) (hevp _ hL) H.obj H.mem ho (by simpa using hcc)
          unfold Oper.wp
          rw [hrun]
          exact stepSv hL (sv_there hwf ho) hv hu
        | ob c id ob scr v =>
          obtain ⟨u, hgn, hp⟩ := opt_some.1 hp
          injection hp with hp; subst hp
          obtain ⟨id', e, es, heq, _, hno, rfl⟩ := gNew_out hgn
          rw [heq] at ho
          exact stepNew hL hL ho hno hu
        | call f ds rs =>
          obtain ⟨_, hp⟩ := cond_some.1 hp
          obtain ⟨r, hr, hp⟩ := opt_some.1 hp
          obtain ⟨u, hres, hp⟩ := opt_some.1 hp
          injection hp with hp; subst hp
          exact stepCall hL hL ho hr hres hu
        | hcall _ _ _ _ _ => cases hp
      · rw [if_neg (fun h => hL (hwant.1 h))]
        cases out with
        | sv c v =>
          obtain ⟨hcc, hp⟩ := cond_some.1 hp
          injection hp with hp; subst hp
          exact stepNo hL (sv_there hwf ho) hu
        | ob c id ob scr v =>
          obtain ⟨u, hgn, hp⟩ := opt_some.1 hp
          injection hp with hp; subst hp
          obtain ⟨id', e, es, heq, _, hno, rfl⟩ := gNew_out hgn
          exact stepNo hL (fun i hi => by cases hi) hu
        | call f ds rs =>
          obtain ⟨hv, hp⟩ := cond_some.1 hp
          obtain ⟨r, hr, hp⟩ := opt_some.1 hp
          obtain ⟨u, hres, hp⟩ := opt_some.1 hp
          injection hp with hp; subst hp
          obtain ⟨v, hv1, hv2⟩ := resUpd_vals hv o.dst r
          rw [hv1 st] at hres
          injection hres with hres; subst hres
          exact stepNo hL (fun i hi => by rw [hv2] at hi; cases hi) hu
        | hcall _ _ _ _ _ => cases hp

/-- A call to which boxes or rows are handed over. -/
theorem hop_sound {callk : Nat → List D → R} (hT : TTok P E.tt) {W0 : World} (hS : Same W0 w0) (hX : ∀ b, X b → W0.heap.size ≤ b) (hcall : CallOK P E W0 callk) {ops : Array Oper} (hn : nodupN (dstsOf ops.toList) = true) (hg : guardsOk ops.toList draw = true) {i : Nat} {o : Oper}
    (hi : nthOp ops.toList i = some o) (hnd : ¬ done i) (hdep : ∀ j w, o.guard = some (j, w) → done j) (hpd : ∀ t, o.dst = some t → pv t = none) (h : RI E X w0 Mx pv ops.toList done st a w) (hch : chainOf ops.toList i = []) {f : Nat} {ds : List D} {sg : Sig} {rows : List Nat} {boxes : List (Nat × TypeId × List CK)}
    (ho : opO E draw st ops.toList [] o = some (.hcall f ds sg rows boxes)) {r : List D} (hr : callk f ds = some r) {st' : St} (hu : hUpd st sg o.dst rows boxes r = some st') {Q : Exit → Act → World → Prop} {next : Act → World → Prop}
    (hnext : ∀ a' w', RI E X w0 Mx pv ops.toList (fun k => done k ∨ k = i) st' a' w' → next a' w') : wpOp P ops Q i next a w := by
  obtain ⟨⟨ι, M, H, hs⟩, hgi, hcl, hwf, hsz, hdf, hpin⟩ := h
  have hi' : ops[i]? = some o := by rw [← nthOp_toList]; exact hi
  have hconst : ∀ v s, constSV v = some s → SVRel E.tt ι M s v := fun v s h => .of0 (const_rel h)
  have hwant := wanted_iff (draw := draw) hg hgi hi hdep
  have hL : HoldsL a (chainOf ops.toList i) := by rw [hch]; intro p hp; cases hp
  have hL0 : HoldsL a [] := fun p hp => by cases hp
  have hev : ∀ x s, ev st ops.toList [] x = some s → SVRel E.tt ι M s (a.eval x) := fun x s h => ev_rel hn hs hL0 hconst h
  obtain ⟨c, hop, hcal, hsg, rs, hargs, rfl⟩ := hcall_inv ho
  have hvals : (c.args.toList.map a.eval).toArray = c.args.map a.eval := by
    apply Array.toList_inj.1; simp
  have hexec : (execOp a.eval o).run P w = (callFunc f (c.args.map a.eval)).run P w := by
    simp [execOp, hop, resolve, hcal, Act.eval, Deferred.ofValue, invoke]
  obtain ⟨R0, hC, hfin⟩ : ∃ R0 : Value → World → Prop, CallsF P f (c.args.map a.eval) w R0 ∧ ∀ v w', R0 v w' → next (a.put o.dst v) w' := by
    unfold hUpd at hu
    cases hgone : sg.gone with
    | false =>
      rw [hgone, cond_false] at hu
      have houts : sg.outs = sg.params := by unfold Sig.outs; rw [hgone]; rfl
      unfold hUpd0 at hu
      replace hu := opt_some.1 hu
      obtain ⟨x, hx, hu⟩ := hu
      replace hu := cond_some.1 hu
      obtain ⟨hc, hput⟩ := hu
      simp only [Bool.and_eq_true] at hc
      obtain ⟨hc1, hc2, hc3, _⟩ := hc
      obtain ⟨bid, hbx, hbv, hAO⟩ := hargs_ok hT hev H hargs (nodupL_iff.1 hc1)
      have hC := hcall f sg ds r hsg hr w M _ (Xh st ι (sndL rs ++ boxIds boxes)) (H.same hS hX) (fun b ⟨j, _, oj, hoj, hbj⟩ => by
        rcases (H.own j oj b hoj hbj).1 with h | h
        · exact Nat.le_trans hS.size h
        · exact hX b h) hAO
      rw [hvals, houts] at hC
      refine ⟨_, hC, fun v w' hret => ?_⟩
      obtain ⟨ι', M', H', hsl, hv, hwf', hvr⟩ := hret_left H hwf hbx (fun p t cs hp => (hbv p t cs hp).1) hret hx hc2 hc3
      exact hnext _ _ (ri_step (u := v) hn hg hi hnd hdep hs hgi hcl hsz hdf hpin hpd (s := { dropRows (sndL rs) st with objs := putAll (dropRows (sndL rs) st).objs (x.2 ++ boxObjs boxes sg.results.length r) }) ⟨ι', M', H', hsl, fun _ => hv⟩ (drop_all (sndL rs) H hwf).n hwf' hvr (fun _ _ => hL) hput)
    | true =>
      rw [hgone, cond_true] at hu
      have houts : sg.outs = [] := by unfold Sig.outs; rw [hgone]; rfl
      unfold hUpd0 at hu
      replace hu := opt_some.1 hu
      obtain ⟨x, hx, hu⟩ := hu
      replace hu := cond_some.1 hu
      obtain ⟨hc, hput⟩ := hu
      simp only [Bool.and_eq_true] at hc
      obtain ⟨hc1, hc2, hc3, _⟩ := hc
      have hb0 : boxIds ([] : List (Nat × TypeId × List CK)) = [] := rfl
      rw [hb0, List.append_nil] at hc1
      obtain ⟨bid, hbx, hbv, hAO⟩ := hargs_ok hT hev H hargs (nodupL_iff.1 hc1)
      have hC := hcall f sg ds r hsg hr w M _ (Xh st ι (sndL rs ++ boxIds boxes)) (H.same hS hX) (fun b ⟨j, _, oj, hoj, hbj⟩ => by
        rcases (H.own j oj b hoj hbj).1 with h | h
        · exact Nat.le_trans hS.size h
        · exact hX b h) hAO
      rw [hvals, houts] at hC
      refine ⟨_, hC, fun v w' hret => ?_⟩
      obtain ⟨ι', M', H', hsl, hv, hwf', hvr⟩ := hret_left (ps := []) (rows := sndL rs ++ boxIds boxes) (boxes := []) (bid := fun _ => 0) H hwf rfl (fun p t cs hp => by simp at hp) (by rw [hb0, List.append_nil]; exact hret) hx hc2 hc3
      exact hnext _ _ (ri_step (u := v) hn hg hi hnd hdep hs hgi hcl hsz hdf hpin hpd (s := { dropRows (sndL rs ++ boxIds boxes) st with objs := putAll (dropRows (sndL rs ++ boxIds boxes) st).objs (x.2 ++ boxObjs [] sg.results.length r) }) ⟨ι', M', H', hsl, fun _ => hv⟩ (drop_all (sndL rs ++ boxIds boxes) H hwf).n hwf' hvr (fun _ _ => hL) hput)
  unfold wpOp
  rw [hi']
  simp only
  rw [if_pos (hwant.2 hL)]
  left
  unfold Oper.wp
  rw [hexec]
  rcases hC with ⟨hrun, hC⟩ | ⟨v, w', hrun, hret⟩
  · rw [hrun]
    refine Calls.mono hC ?_
    intro e w' he
    cases e with
    | returned v => exact hfin v w' he
    | panicked c => exact he.elim
    | outgrown => exact he.elim
  · rw [hrun]
    exact hfin v w' hret

theorem rowObjs_plain : ∀ (cs : List CK) (i c : Nat) (d : D), plainC cs = true → rowObjs i cs c d = [] := by
  intro cs
  induction cs with
  | nil => intro i c d _; rfl
  | cons k r ih =>
    intro i c d h
    cases k with
    | val k => exact ih i (c + 1) d h
    | row e => cases h
    | self => exact ih i (c + 1) d h
theorem resSV_len : ∀ {rs : List RM} {base j : Nat} {ds : List D} {svs : List SV} {os : List (Nat × Obj)}, resSV rs base j ds = some (svs, os) → svs.length = rs.length := by
  intro rs
  induction rs with
  | nil => intro base j ds svs os h; injection h with h; injection h with h1 h2; subst h1; rfl
  | cons r rs ih =>
    intro base j ds svs os h
    cases r <;> (simp only [resSV] at h; obtain ⟨x, hx, h⟩ := opt_some.1 h; obtain ⟨x1, x2⟩ := x; injection h with h; injection h with h1 h2; subst h1; simp only [List.length_cons]; rw [ih hx])
theorem hUpd_of_D {sg : Sig} {dst : Option Nat} {i : Nat} {t : TypeId} {cs : List CK} {r : List D} {u : Upd} {st' : St} (hg : sg.gone = false) (hv : allValR sg.results = true) (hcs : plainC cs = true) (hu : hUpdD st sg dst [(i, t, cs)] r = some u) (hap : applyU st dst u = some st') :
    hUpd st sg dst [] [(i, t, cs)] r = some st' := by
  obtain ⟨ps, rs, gn⟩ := sg
  simp only at hg hv
  subst hg
  unfold hUpdD at hu
  obtain ⟨u0, hu0, hu⟩ := opt_some.1 hu
  injection hu with hu; subst hu
  simp only at hu0 hap
  have hbo : boxObjs [(i, t, cs)] rs.length r = [(i, .box t (.cells (mkCells i cs 0 (r.getD rs.length .no))))] := by
    simp only [boxObjs, rowObjs_plain cs i 0 _ hcs, List.append_nil]
  have core : ∀ svs : List SV, (∀ d, dst = some d → u0.v = oneV svs) → (opt (some (svs, ([] : List (Nat × Obj)))) fun x => cond (nodupL ([] ++ boxIds [(i, t, cs)]) && (nodupL (keysN (x.2 ++ boxObjs [(i, t, cs)] rs.length r)) && (freshOr (dropRows [] st) (boxIds [(i, t, cs)]) (x.2 ++ boxObjs [(i, t, cs)] rs.length r) && (allValR rs || dst.isSome))))
      (putSlot { dropRows [] st with objs := putAll (dropRows [] st).objs (x.2 ++ boxObjs [(i, t, cs)] rs.length r) } dst (oneV x.1)) none) = some st' := by
    intro svs hvv
    rw [hbo]
    simp only [opt_val, List.nil_append, boxIds, keysN, nodupL, memN, freshOr, beq_self, hv, cond_true, cond_false, Bool.true_or, Bool.true_and, Bool.and_true, dropRows, putAll]
    refine Eq.trans ?_ hap
    cases dst with
    | none => rfl
    | some d =>
      unfold applyU
      simp only
      rw [hvv d rfl]
      rfl
  unfold hUpd hUpd0
  simp only [cond_false]
  cases dst with
  | none =>
    obtain ⟨svs, h1, _, _⟩ := resSV_vals rs 0 0 r hv
    simp only
    rw [h1]
    exact core svs (fun d h => by cases h)
  | some q =>
    cases rs with
    | nil =>
      refine core [] (fun d _ => ?_)
      injection hu0 with hu0; subst hu0; rfl
    | cons r1 rs =>
      cases rs with
      | nil =>
        obtain ⟨svs, h1, _, _⟩ := resSV_vals [r1] q 0 r hv
        simp only at hu0 ⊢
        rw [h1]
        refine core svs (fun d _ => ?_)
        simp only [resUpd, h1, opt_val, freshAll, cond_true] at hu0
        split at hu0
        · injection hu0 with hu0; subst hu0; rfl
        · cases hu0
      | cons r2 rs =>
        obtain ⟨svs, h1, _, _⟩ := resSV_vals (r1 :: r2 :: rs) (500000 + 16 * q) 0 r hv
        simp only at hu0 ⊢
        rw [h1]
        refine core svs (fun d _ => ?_)
        simp only [resUpd, h1, opt_val, freshAll, cond_true] at hu0
        injection hu0 with hu0; subst hu0
        have hl : 2 ≤ svs.length := by
          have := resSV_len h1
          simp only [List.length_cons] at this
          omega
        match svs, hl with
        | a :: b :: l, _ => rfl
theorem op_sound {callk : Nat → List D → R} (hT : TTok P E.tt) {W0 : World} (hS : Same W0 w0) (hX : ∀ b, X b → W0.heap.size ≤ b) (hcall : CallOK P E W0 callk) {ops : Array Oper} (hn : nodupN (dstsOf ops.toList) = true) (hg : guardsOk ops.toList draw = true) {i : Nat} {o : Oper}
    (hi : nthOp ops.toList i = some o) (hnd : ¬ done i) (hdep : ∀ j w, o.guard = some (j, w) → done j) (hpd : ∀ t, o.dst = some t → pv t = none) (h : RI E X w0 Mx pv ops.toList done st a w) {p : Option Nat × Upd} {st' : St}
    (hp : evalU E callk ops.toList draw i st = some p) (hu : applyU st p.1 p.2 = some st') {Q : Exit → Act → World → Prop} {next : Act → World → Prop}
    (hnext : ∀ a' w', RI E X w0 Mx pv ops.toList (fun k => done k ∨ k = i) st' a' w' → next a' w') : wpOp P ops Q i next a w := by
  cases hH : isH E ops.toList draw i st with
  | false => exact op_sound0 hT hS hX hcall hn hg hi hnd hdep hpd h hp hH hu hnext
  | true =>
    unfold isH at hH
    unfold evalU at hp
    rw [hi] at hH hp
    simp only at hH hp
    cases hch : chainOf ops.toList i with
    | cons _ _ => rw [hch] at hH; cases hH
    | nil =>
      rw [hch] at hH hp
      simp only at hH hp
      cases hop : opO E draw st ops.toList [] o with
      | none => rw [hop] at hH; cases hH
      | some out =>
        rw [hop] at hH hp
        cases out with
        | hcall f ds sg rows boxes =>
          obtain ⟨hd, hp⟩ := cond_some.1 hp
          obtain ⟨r, hr, hp⟩ := opt_some.1 hp
          obtain ⟨u, hu2, hp⟩ := opt_some.1 hp
          injection hp with hp; subst hp
          obtain ⟨hds, c, _, _, _, rs, hargs, hrs⟩ := hcall_inv2 hop
          have hsi : simpleH sg = true := by rcases hds with h | h; (rw [hd] at h; cases h); exact h
          unfold simpleH at hsi
          simp only [Bool.and_eq_true, Bool.not_eq_true'] at hsi
          obtain ⟨j, t, cs, rfl, hcs, rfl, _, _⟩ := hargs_one _ _ _ _ _ _ hargs hsi.1
          subst hrs
          exact hop_sound hT hS hX hcall hn hg hi hnd hdep hpd h hch hop hr (hUpd_of_D hsi.2.2 hsi.2.1 hcs hu2 hu) hnext
        | _ => cases hH
end
end Go.Proofs.YthbncndefigidaaDoor.DS

namespace Go.Proofs.YthbncndefigidaaDoor.DS

section
variable {P : Program} {E : Env} {X : Nat → Prop} {w0 w w' : World} {Mx : Mem} {pv : Nat → Option Value} {done : Nat → Prop} {st st1 st2 : St} {a : Act} {draw : Bool} {callk : Nat → List D → R}

theorem RI.congr {ops : List Oper} {done' : Nat → Prop} (h : RI E X w0 Mx pv ops done st a w) (e : ∀ k, done k ↔ done' k) : RI E X w0 Mx pv ops done' st a w := by
  have : done = done' := funext fun k => propext (e k)
  subst this; exact h

/-- A region that is carried out in the text's order. -/
theorem ops_sound {α : Type} (hT : TTok P E.tt) {W0 : World} (hS : Same W0 w0) (hX : ∀ b, X b → W0.heap.size ≤ b) (hcall : CallOK P E W0 callk) {ops : Array Oper} (hn : nodupN (dstsOf ops.toList) = true) (hg : guardsOk ops.toList draw = true) (hpn : ∀ i o, nthOp ops.toList i = some o → ∀ t, o.dst = some t → pv t = none) {Q : Exit → Act → World → Prop} {K : St → Option α} {r : α}
    (hQ : ∀ st' a' w', RI E X w0 Mx pv ops.toList (fun k => k < ops.size) st' a' w' → K st' = some r → Q .normal a' w') :
    ∀ n i st a w, i + n = ops.size → RI E X w0 Mx pv ops.toList (fun k => k < i) st a w → opsK E callk ops.toList draw (upFrom i n) st K = some r → wpOps P ops Q (List.range' i n) a w := by
  intro n
  induction n with
  | zero =>
    intro i st a w hin h hk
    have : i = ops.size := by omega
    subst this
    exact hQ st a w h hk
  | succ n ih =>
    intro i st a w hin h hk
    simp only [upFrom, opsK] at hk
    rw [List.range'_succ, wpOps_cons]
    have hlt : i < ops.size := by omega
    have hi : nthOp ops.toList i = some ops[i] := by rw [nthOp_toList]; simp [hlt]
    by_cases hH : draw = true ∨ isH E ops.toList draw i st = false
    case neg =>
      simp only [not_or, Bool.not_eq_true, Bool.not_eq_false] at hH
      obtain ⟨hd, hH⟩ := hH
      unfold isH at hH
      rw [hi] at hH
      simp only at hH
      unfold opK at hk
      rw [hi] at hk
      simp only at hk
      cases hch : chainOf ops.toList i with
      | cons _ _ => rw [hch] at hH; cases hH
      | nil =>
        rw [hch] at hH hk
        simp only at hH hk
        cases hop : opO E draw st ops.toList [] ops[i] with
        | none => rw [hop] at hH; cases hH
        | some out =>
          rw [hop] at hH hk
          cases out with
          | hcall f ds sg rows boxes =>
            simp only [hd, cond_false] at hk
            obtain ⟨r', hr', hk⟩ := opt_some.1 hk
            obtain ⟨st', hu, hk⟩ := opt_some.1 hk
            refine hop_sound hT hS hX hcall hn hg hi (by omega) (fun j w hgd => ?_) (hpn i _ hi) h hch hop hr' hu ?_
            · obtain ⟨_, _, _, _, hlt, _⟩ := guards_spec hg hi hgd; exact hlt
            · intro a' w' h'
              exact ih (i + 1) st' a' w' (by omega) (h'.congr fun k => by omega) (by rw [hd]; exact hk)
          | _ => cases hH
    rw [opK_eq _ _ _ _ _ _ _ hH] at hk
    obtain ⟨p, hp, hk⟩ := opt_some.1 hk
    obtain ⟨st', hu, hk⟩ := opt_some.1 hk
    refine op_sound hT hS hX hcall hn hg hi (by omega) (fun j w hgd => ?_) (hpn i _ hi) h hp hu ?_
    · obtain ⟨_, _, _, _, hlt, _⟩ := guards_spec hg hi hgd; exact hlt
    · intro a' w' h'
      exact ih (i + 1) st' a' w' (by omega) (h'.congr fun k => by omega) hk

/-! ### Change of places -/
variable {ops : List Oper}

def putD {α : Type} (f : Nat → Option α) (d : Option Nat) (v : α) : Nat → Option α := match d with | some t => put f t (some v) | none => f
def putOb (f : Nat → Option Obj) (x : Option (Nat × Obj × Bool)) : Nat → Option Obj := match x with | some (id, ob, _) => put f id (some ob) | none => f
theorem putD_cases {α : Type} (f : Nat → Option α) (d : Option Nat) (v : α) (t : Nat) : (d = some t ∧ putD f d v t = some v) ∨ (d ≠ some t ∧ putD f d v t = f t) := by
  cases d with
  | none => exact .inr ⟨(fun e => by cases e), rfl⟩
  | some u =>
    by_cases e : t = u
    · subst e; exact .inl ⟨rfl, put_same _ _ _⟩
    · exact .inr ⟨fun h => (by injection h with h; exact e h.symm), put_other _ _ _ e⟩
theorem putOb_cases (f : Nat → Option Obj) (x : Option (Nat × Obj × Bool)) (i : Nat) : (∃ ob scr, x = some (i, ob, scr) ∧ putOb f x i = some ob) ∨ putOb f x i = f i := by
  cases x with
  | none => exact .inr rfl
  | some y =>
    obtain ⟨id, ob, scr⟩ := y
    by_cases e : i = id
    · subst e; exact .inl ⟨ob, scr, rfl, put_same _ _ _⟩
    · exact .inr (put_other _ _ _ e)
def dstOk (n : Nat) : Option Nat → Bool | some t => Nat.ble (t + 1) n | none => true

theorem applyU_eq {o : Oper} {p : Option Nat × Upd} (h : UFact st o p) (st' : St) : applyU st' p.1 p.2 = cond (dstOk st'.n p.1) (some ⟨st'.n, putD st'.slots p.1 p.2.v, putOb st'.objs p.2.ob⟩) none := by
  obtain ⟨d, v, ob, obs⟩ := p
  have h1 := h.obs
  have h2 := h.ob
  simp only at h1
  subst h1
  have key : ∀ s : St, s.n = st'.n → s.slots = st'.slots → s.objs = putOb st'.objs ob → putSlot s d v = cond (dstOk st'.n d) (some ⟨st'.n, putD st'.slots d v, putOb st'.objs ob⟩) none := by
    intro s e1 e2 e3
    cases s with
    | mk n sl os =>
      simp only at e1 e2 e3
      subst e1 e2 e3
      cases d with
      | none => rfl
      | some t => rfl
  unfold applyU
  cases ob with
  | none => exact key st' rfl rfl rfl
  | some x =>
    obtain ⟨id, o', scr⟩ := x
    have := (h2 id o' scr rfl).scr
    subst this
    exact key _ rfl rfl rfl

theorem applyU_wf (hwf : WF st) {o : Oper} {p : Option Nat × Upd} (h : UFact st o p) (hap : applyU st p.1 p.2 = some st1) : WF st1 := by
  rw [applyU_eq h] at hap
  obtain ⟨_, hap⟩ := cond_some.1 hap
  injection hap with hap; subst hap
  have hin : ∀ i ob, st.objs i = some ob → ∃ ob', putOb st.objs p.2.ob i = some ob' := by
    intro i ob hi
    rcases putOb_cases st.objs p.2.ob i with ⟨ob', _, _, h⟩ | h
    · exact ⟨ob', h⟩
    · exact ⟨ob, h.trans hi⟩
  constructor
  · intro t s hs i hi
    simp only at hs ⊢
    have hs' : st.slots t = some s ∨ s = p.2.v := by
      rcases putD_cases st.slots p.1 p.2.v t with ⟨_, h⟩ | ⟨_, h⟩
      · rw [h] at hs; injection hs with hs; exact .inr hs.symm
      · rw [h] at hs; exact .inl hs
    rcases hs' with hs' | rfl
    · obtain ⟨ob, hob⟩ := hwf.slots t s hs' i hi
      exact hin i ob hob
    · rcases h.vrefs i hi with ⟨ob, hob⟩ | ⟨x, hx⟩
      · exact hin i ob hob
      · rw [hx]; exact ⟨x.1, put_same _ _ _⟩
  · intro j ob hj i hi
    simp only at hj ⊢
    have hj' : st.objs j = some ob ∨ ∃ scr, p.2.ob = some (j, ob, scr) := by
      rcases putOb_cases st.objs p.2.ob j with ⟨ob', scr, hx, h⟩ | h
      · rw [h] at hj; injection hj with hj; subst hj; exact .inr ⟨scr, hx⟩
      · rw [h] at hj; exact .inl hj
    rcases hj' with hj' | ⟨scr, hx⟩
    · obtain ⟨ob', hob'⟩ := hwf.cells j ob hj' i hi
      exact hin i ob' hob'
    · rcases (h.ob j ob scr hx).refs i hi with rfl | ⟨ob', hob'⟩
      · rw [hx]; exact ⟨ob, put_same _ _ _⟩
      · exact hin i ob' hob'


structure Indep (ops : List Oper) (i j : Nat) (oi oj : Oper) : Prop where
  alli : (opEff oi).all = false
  allj : (opEff oj).all = false
  di : ∀ d, oi.dst = some d → d ∉ usesOf ops j
  dj : ∀ d, oj.dst = some d → d ∉ usesOf ops i
  dd : ∀ d d', oi.dst = some d → oj.dst = some d' → d ≠ d'
theorem indep_spec {i j : Nat} {oi oj : Oper} (hi : nthOp ops i = some oi) (hj : nthOp ops j = some oj) (h : indep ops i j = true) : Indep ops i j oi oj := by
  unfold indep at h
  rw [hi, hj] at h
  simp only [Bool.and_eq_true, Bool.not_eq_true'] at h
  obtain ⟨⟨q1, q2⟩, h2, h3, h4⟩ := h
  refine ⟨q1, q2, ?_, ?_, ?_⟩
  · intro d hd; unfold dstIn at h2; rw [hd] at h2; exact memN_false h2
  · intro d hd; unfold dstIn at h3; rw [hd] at h3; exact memN_false h3
  · intro d d' hd hd'; rw [hd, hd'] at h4; simp only [Bool.not_eq_true'] at h4; exact beq_false.1 h4
theorem Indep.symm {i j : Nat} {oi oj : Oper} (h : Indep ops i j oi oj) : Indep ops j i oj oi :=
  ⟨h.allj, h.alli, h.dj, h.di, fun d d' h1 h2 e => h.dd d' d h2 h1 e.symm⟩

theorem mem_refsAt {i : Nat} {l : List Nat} : i ∈ refsAt st l ↔ ∃ t ∈ l, ∃ s, st.slots t = some s ∧ i ∈ refsOf s := by
  induction l with
  | nil => simp [refsAt]
  | cons t r ih =>
    simp only [refsAt, List.mem_cons, exists_eq_or_imp]
    cases st.slots t with
    | none => simp [ih]
    | some s => simp [ih]
theorem refsAt_congr {l : List Nat} (h : ∀ t ∈ l, st1.slots t = st.slots t) : refsAt st1 l = refsAt st l := by
  induction l with
  | nil => rfl
  | cons t r ih =>
    simp only [refsAt, h t List.mem_cons_self, ih (fun u hu => h u (List.mem_cons_of_mem _ hu))]
theorem bptrs_sub {l : List Nat} {x : Nat} (h : x ∈ bptrsAt st l) : x ∈ refsAt st l := by
  induction l with
  | nil => cases h
  | cons t r ih =>
    simp only [bptrsAt] at h
    rw [mem_refsAt]
    have hr : x ∈ bptrsAt st r → ∃ t' ∈ t :: r, ∃ s, st.slots t' = some s ∧ x ∈ refsOf s := fun h => by
      obtain ⟨t', h1, s, h2, h3⟩ := mem_refsAt.1 (ih h)
      exact ⟨t', List.mem_cons_of_mem _ h1, s, h2, h3⟩
    split at h
    · rename_i id u off k hs
      rcases List.mem_cons.1 h with rfl | h
      · exact ⟨t, List.mem_cons_self, _, hs, by simp [refsOf, refs0]⟩
      · exact hr h
    · exact hr h
theorem bptrs_congr {l : List Nat} (h : ∀ t ∈ l, st1.slots t = st.slots t) : bptrsAt st1 l = bptrsAt st l := by
  induction l with
  | nil => rfl
  | cons t r ih => simp only [bptrsAt, h t List.mem_cons_self, ih (fun u hu => h u (List.mem_cons_of_mem _ hu))]
theorem opds_in {o : Oper} {i : Nat} (hi : nthOp ops i = some o) {l : List Operand} (hl : ∀ x ∈ l, x ∈ o.op.operands.toList) : ∀ t ∈ opdsUses l, t ∈ usesOf ops i := by
  intro t ht
  unfold usesOf
  rw [hi]
  refine List.mem_append_left _ ?_
  have : ∀ (l : List Operand), t ∈ opdsUses l → (∀ x ∈ l, x ∈ o.op.operands.toList) → ∃ x ∈ o.op.operands.toList, x = .tmp t := by
    intro l
    induction l with
    | nil => intro h _; cases h
    | cons x r ih =>
      intro h hx
      simp only [opdsUses, List.mem_append] at h
      rcases h with h | h
      · refine ⟨x, hx x List.mem_cons_self, ?_⟩
        cases x with
        | tmp v => simp only [opdUses, List.mem_singleton] at h; rw [h]
        | _ => cases h
      · exact ih h fun y hy => hx y (List.mem_cons_of_mem _ hy)
  obtain ⟨x, hx, rfl⟩ := this l ht hl
  exact opdsUses_mem hx rfl
theorem wrAt_cases {o : Oper} {i : Nat} (hi : nthOp ops i = some o) : ∃ l, (∀ t ∈ l, t ∈ usesOf ops i) ∧ ((∀ st : St, wrAt st o = refsAt st l) ∨ ∀ st : St, wrAt st o = bptrsAt st l) := by
  cases hop : o.op with
  | store t a x =>
    refine ⟨opdsUses [a], opds_in hi (fun y hy => ?_), .inl fun st => ?_⟩
    · rw [List.mem_singleton.1 hy]; simp [hop, Op.operands]
    · simp [wrAt, hop, opdsUses]
  | call c =>
    have harg : ∀ x ∈ c.args.toList, x ∈ o.op.operands.toList := by
      intro x hx
      rw [hop]
      simp only [Op.operands, Call.operands, Array.toList_append, List.mem_append]
      exact .inr hx
    cases hcal : c.callee with
    | value v =>
      cases v with
      | func f => exact ⟨opdsUses c.args.toList, opds_in hi harg, .inr fun st => by simp [wrAt, hop, hcal]⟩
      | _ => exact ⟨[], fun t h => (by cases h), .inl fun st => (by simp [wrAt, hop, hcal, refsAt])⟩
    | _ => exact ⟨[], fun t h => (by cases h), .inl fun st => (by simp [wrAt, hop, hcal, refsAt])⟩
  | _ => exact ⟨[], fun t h => (by cases h), .inl fun st => (by simp [wrAt, hop, refsAt])⟩
theorem wrAt_sub {o : Oper} {i : Nat} (hi : nthOp ops i = some o) {x : Nat} (hx : x ∈ wrAt st o) : x ∈ refsAt st (usesOf ops i) := by
  obtain ⟨l, h1, h2 | h2⟩ := wrAt_cases hi
  · rw [h2] at hx
    obtain ⟨t, ht, s, hs, hr⟩ := mem_refsAt.1 hx
    exact mem_refsAt.2 ⟨t, h1 t ht, s, hs, hr⟩
  · rw [h2] at hx
    obtain ⟨t, ht, s, hs, hr⟩ := mem_refsAt.1 (bptrs_sub hx)
    exact mem_refsAt.2 ⟨t, h1 t ht, s, hs, hr⟩
theorem wrAt_congr {o : Oper} {i : Nat} (hi : nthOp ops i = some o) (h : ∀ t ∈ usesOf ops i, st1.slots t = st.slots t) : wrAt st1 o = wrAt st o := by
  obtain ⟨l, h1, h2 | h2⟩ := wrAt_cases hi
  · rw [h2, h2]; exact refsAt_congr fun t ht => h t (h1 t ht)
  · rw [h2, h2]; exact bptrs_congr fun t ht => h t (h1 t ht)
theorem disjL_iff {l m : List Nat} : disjL l m = true ↔ ∀ x ∈ l, x ∉ m := by
  induction l with
  | nil => simp [disjL]
  | cons x r ih =>
    simp only [disjL, List.forall_mem_cons]
    cases h : memN x m with
    | true => simp [memN_iff.1 h]
    | false => simp [memN_false h, ih]

/-- What an operation does to the slots and objects that another looks at: nothing. -/
theorem slots_frame (hwf : WF st) {i j : Nat} {oi oj : Oper} (hj : nthOp ops j = some oj) (hI : Indep ops i j oi oj) {pj : Option Nat × Upd} (hpj : evalU E callk ops true j st = some pj) (hap : applyU st pj.1 pj.2 = some st1) :
    ∀ t ∈ usesOf ops i, st1.slots t = st.slots t := by
  have hf := evalU_fact hwf hj hI.allj hpj
  rw [applyU_eq hf] at hap
  obtain ⟨_, hap⟩ := cond_some.1 hap
  injection hap with hap; subst hap
  intro t ht
  rcases putD_cases st.slots pj.1 pj.2.v t with ⟨h, _⟩ | ⟨_, h⟩
  · exact absurd ht (hI.dj t (by rw [← hf.dst]; exact h))
  · exact h

/-- What j does leaves what i does. -/
theorem evalU_frame (hwf : WF st) {i j : Nat} {oi oj : Oper} (hi : nthOp ops i = some oi) (hj : nthOp ops j = some oj) (hI : Indep ops i j oi oj) {pj : Option Nat × Upd} (hpj : evalU E callk ops true j st = some pj) (hap : applyU st pj.1 pj.2 = some st1)
    (hd : ∀ x ∈ wrAt st oj, x ∉ refsAt st (usesOf ops i)) : evalU E callk ops true i st1 = evalU E callk ops true i st := by
  have hsl := slots_frame hwf hj hI hpj hap
  have hf := evalU_fact hwf hj hI.allj hpj
  rw [applyU_eq hf] at hap
  obtain ⟨_, hap⟩ := cond_some.1 hap
  injection hap with hap; subst hap
  refine evalU_congr hi hI.alli hsl ?_ ?_
  · intro d hd
    simp only [fresh]
    rcases putOb_cases st.objs pj.2.ob d with ⟨ob, scr, hx, h⟩ | h
    · rw [h]
      rcases (hf.ob d ob scr hx).kind with ⟨_, h2⟩ | ⟨_, ob0, h2⟩
      · exact absurd rfl (hI.dd d d hd h2)
      · rw [h2]
    · rw [h]
  · intro hrw t s ht hs i' hi'
    rcases putOb_cases st.objs pj.2.ob i' with ⟨ob, scr, hx, h⟩ | h
    · exfalso
      obtain ⟨ob', hob'⟩ := hwf.slots t s hs i' hi'
      rcases (hf.ob i' ob scr hx).kind with ⟨h1, _⟩ | ⟨h1, _⟩
      · rw [h1] at hob'; cases hob'
      · exact hd i' h1 (mem_refsAt.2 ⟨t, ht, s, hs, hi'⟩)
    · exact h

theorem put_swap {α : Type} (f : Nat → α) {t u : Nat} (x y : α) (h : t ≠ u) : put (put f t x) u y = put (put f u y) t x := by
  funext k
  simp only [put]
  by_cases h1 : k = t
  · subst h1
    rw [beq_false.2 h, beq_self]; rfl
  · rw [beq_false.2 h1]; rfl

/-- Two operations that do not meet change places. -/
theorem commute (hwf : WF st) {i j : Nat} {oi oj : Oper} (hi : nthOp ops i = some oi) (hj : nthOp ops j = some oj) (hI : Indep ops i j oi oj) {pj pi : Option Nat × Upd} (hpj : evalU E callk ops true j st = some pj) (hapj : applyU st pj.1 pj.2 = some st1)
    (hpi : evalU E callk ops true i st1 = some pi) (hapi : applyU st1 pi.1 pi.2 = some st2) (hd1 : ∀ x ∈ wrAt st oj, x ∉ refsAt st (usesOf ops i)) (hd2 : ∀ x ∈ wrAt st oi, x ∉ refsAt st (usesOf ops j)) :
    evalU E callk ops true i st = some pi ∧ ∃ st1', applyU st pi.1 pi.2 = some st1' ∧ evalU E callk ops true j st1' = some pj ∧ applyU st1' pj.1 pj.2 = some st2 := by
  have e1 := evalU_frame hwf hi hj hI hpj hapj hd1
  rw [e1] at hpi
  have hfj := evalU_fact hwf hj hI.allj hpj
  have hfi := evalU_fact hwf hi hI.alli hpi
  rw [applyU_eq hfj] at hapj
  obtain ⟨dj, hapj⟩ := cond_some.1 hapj
  injection hapj with hapj; subst hapj
  rw [applyU_eq hfi] at hapi
  obtain ⟨di, hapi⟩ := cond_some.1 hapi
  injection hapi with hapi; subst hapi
  have hap' : applyU st pi.1 pi.2 = some ⟨st.n, putD st.slots pi.1 pi.2.v, putOb st.objs pi.2.ob⟩ := by
    rw [applyU_eq hfi]
    simp only at di
    rw [di]; rfl
  refine ⟨hpi, _, hap', ?_, ?_⟩
  · rw [evalU_frame hwf hj hi hI.symm hpi hap' hd2]; exact hpj
  · rw [applyU_eq hfj]
    simp only
    rw [dj]
    simp only [cond_true, Option.some.injEq, St.mk.injEq, true_and]
    constructor
    · cases hd : pi.1 with
      | none => rfl
      | some d =>
        cases hd' : pj.1 with
        | none => rfl
        | some d' => exact put_swap _ _ _ (hI.dd d d' (by rw [← hfi.dst]; exact hd) (by rw [← hfj.dst]; exact hd'))
    · cases hx : pi.2.ob with
      | none => rfl
      | some x =>
        cases hy : pj.2.ob with
        | none => rfl
        | some y =>
          obtain ⟨id, ob, scr⟩ := x
          obtain ⟨id', ob', scr'⟩ := y
          refine put_swap _ _ _ (fun e => ?_)
          subst e
          rcases (hfi.ob id ob scr hx).kind with ⟨h1, h2⟩ | ⟨h1, ob0, h2⟩ <;> rcases (hfj.ob id ob' scr' hy).kind with ⟨h3, h4⟩ | ⟨h3, ob1, h4⟩
          · exact hI.dd id id h2 h4 rfl
          · rw [h1] at h4; cases h4
          · rw [h3] at h2; cases h2
          · exact hd1 id h3 (wrAt_sub hi h1)

/-- What is asked of an operation, those that went ahead being given. -/
theorem pairOk_iff {i : Nat} {rs ws : List Nat} {log : List (Nat × List Nat × List Nat)} : pairOk ops i rs ws log = true ↔ ∀ p ∈ log, ((∀ x ∈ p.2.2, x ∉ rs) ∧ ∀ x ∈ ws, x ∉ p.2.1) ∨ (p.1 ∈ (ancs ops).getD i [] ∨ i ∈ (ancs ops).getD p.1 []) := by
  induction log with
  | nil => simp [pairOk]
  | cons p r ih =>
    obtain ⟨j, rj, wj⟩ := p
    simp only [pairOk, List.forall_mem_cons]
    cases h : (disjL wj rs && disjL ws rj || (memN j ((ancs ops).getD i []) || memN i ((ancs ops).getD j []))) with
    | true =>
      simp only [cond_true, ih]
      simp only [Bool.or_eq_true, Bool.and_eq_true, disjL_iff, memN_iff] at h
      exact ⟨fun q => ⟨h, q⟩, fun q => q.2⟩
    | false =>
      simp only [cond_false]
      have : ¬ (((∀ x ∈ wj, x ∉ rs) ∧ ∀ x ∈ ws, x ∉ rj) ∨ (j ∈ (ancs ops).getD i [] ∨ i ∈ (ancs ops).getD j [])) := by
        intro hh
        rw [← disjL_iff, ← disjL_iff, ← memN_iff, ← memN_iff, ← Bool.and_eq_true, ← Bool.or_eq_true, ← Bool.or_eq_true, h] at hh
        cases hh
      simp only [this, false_and]
      simp

theorem opsD_log {α : Type} {K : St → Option α} : ∀ (l : List Nat) (log log' : List (Nat × List Nat × List Nat)) (st : St), (∀ p, p ∈ log' → p ∈ log) → ∀ {r}, opsD E callk ops l log st K = some r → opsD E callk ops l log' st K = some r := by
  intro l
  induction l with
  | nil => intro log log' st _ r h; exact h
  | cons i l ih =>
    intro log log' st hsub r h
    simp only [opsD] at h ⊢
    cases hb : (cond (isNilL l) (lastOf ops i) false) with
    | true =>
      rw [hb] at h
      simp only [cond_true] at h ⊢
      cases hl : l with
      | nil => rw [hl] at h; exact h
      | cons a b => rw [hl] at hb; cases hb
    | false =>
    rw [hb] at h
    simp only [cond_false] at h ⊢
    obtain ⟨hp, h⟩ := cond_some.1 h
    have hp' : pairOk ops i (refsAt st (usesOf ops i)) (wrOf ops i st) log' = true := pairOk_iff.2 fun p hm => pairOk_iff.1 hp p (hsub p hm)
    rw [hp', cond_true]
    rw [opK_eqT] at h ⊢
    obtain ⟨pi, h1, h⟩ := opt_some.1 h
    obtain ⟨st1, h2, h⟩ := opt_some.1 h
    rw [h1, opt_val, h2, opt_val]
    refine ih _ _ st1 (fun p hm => ?_) h
    rcases List.mem_cons.1 hm with rfl | hm
    · exact List.mem_cons_self
    · exact List.mem_cons_of_mem _ (hsub p hm)

theorem allAnc_spec {l : List Nat} : ∀ {n : Nat}, allAnc l n = true → ∀ j, j < n → j ∈ l := by
  intro n
  induction n with
  | zero => intro _ j hj; omega
  | succ n ih =>
    intro h j hj
    obtain ⟨h1, h2⟩ := (show memN n l = true ∧ allAnc l n = true by
      simp only [allAnc] at h
      cases hm : memN n l with
      | true => rw [hm] at h; exact ⟨rfl, h⟩
      | false => rw [hm] at h; cases h)
    by_cases e : j = n
    · rw [e]; exact memN_iff.1 h1
    · exact ih h2 j (by omega)
theorem lastOf_spec {i : Nat} (h : lastOf ops i = true) : i + 1 = ops.length ∧ ∀ j, j < i → j ∈ (ancs ops).getD i [] := by
  unfold lastOf at h
  cases hb : Nat.beq (i + 1) ops.length with
  | false => rw [hb] at h; cases h
  | true => rw [hb] at h; exact ⟨Nat.eq_of_beq_eq_true hb, allAnc_spec h⟩
theorem lastOf_f1 {i j : Nat} (hj : j < i) (h : j ∉ (ancs ops).getD i []) : lastOf ops i = false := by
  cases hl : lastOf ops i with
  | false => rfl
  | true => exact absurd ((lastOf_spec hl).2 j hj) h
theorem lastOf_f2 {i j : Nat} {o : Oper} (hj : j < i) (hi : nthOp ops i = some o) : lastOf ops j = false := by
  cases hl : lastOf ops j with
  | false => rfl
  | true => have := (lastOf_spec hl).1; have := nthOp_lt hi; omega
theorem last_f {α : Type} {l : List α} {b : Bool} (h : b = false) : cond (isNilL l) b false = false := by
  subst h; cases isNilL l <;> rfl
/-- An operation goes ahead of those it does not meet. -/
theorem front {α : Type} {K : St → Option α} {r : α} {i : Nat} {oi : Oper} (hi : nthOp ops i = some oi) {l2 : List Nat} : ∀ (l1 : List Nat) (log : List (Nat × List Nat × List Nat)) (st : St), WF st → (∀ j ∈ l1, ∃ oj, nthOp ops j = some oj ∧ Indep ops i j oi oj ∧ j ∉ (ancs ops).getD i [] ∧ i ∉ (ancs ops).getD j [] ∧ j < i) →
    opsD E callk ops (l1 ++ i :: l2) log st K = some r → opsD E callk ops (i :: (l1 ++ l2)) log st K = some r := by
  intro l1
  induction l1 with
  | nil => intro log st _ _ h; exact h
  | cons j l1 ih =>
    intro log st hwf hl h
    obtain ⟨oj, hj, hI, hn1, hn2, hji⟩ := hl j List.mem_cons_self
    have q1 : lastOf ops i = false := lastOf_f1 hji hn1
    have q2 : lastOf ops j = false := lastOf_f2 hji hi
    simp only [List.cons_append, opsD, opK_eqT, last_f q1, last_f q2, cond_false] at h ⊢
    obtain ⟨hok, h⟩ := cond_some.1 h
    obtain ⟨pj, hpj, h⟩ := opt_some.1 h
    obtain ⟨st1, hapj, h⟩ := opt_some.1 h
    have hwf1 : WF st1 := applyU_wf hwf (evalU_fact hwf hj hI.allj hpj) hapj
    have h2 := ih _ st1 hwf1 (fun k hk => hl k (List.mem_cons_of_mem _ hk)) h
    simp only [opsD, opK_eqT, last_f q1, cond_false] at h2
    obtain ⟨hok2, h2⟩ := cond_some.1 h2
    obtain ⟨pi, hpi, h2⟩ := opt_some.1 h2
    obtain ⟨st2, hapi, h2⟩ := opt_some.1 h2
    have hsl := slots_frame hwf hj hI hpj hapj
    have hri : refsAt st1 (usesOf ops i) = refsAt st (usesOf ops i) := refsAt_congr hsl
    have hwi : wrOf ops i st1 = wrOf ops i st := by
      simp only [wrOf, hi]
      exact wrAt_congr hi hsl
    rw [hri, hwi] at hok2 h2
    have hpair := pairOk_iff.1 hok2 _ List.mem_cons_self
    obtain ⟨hd1, hd2⟩ : (∀ x ∈ wrOf ops j st, x ∉ refsAt st (usesOf ops i)) ∧ ∀ x ∈ wrOf ops i st, x ∉ refsAt st (usesOf ops j) := by
      rcases hpair with h | h | h
      · exact h
      · exact absurd h hn1
      · exact absurd h hn2
    have hwj : wrOf ops j st = wrAt st oj := by simp only [wrOf, hj]
    have hwi' : wrOf ops i st = wrAt st oi := by simp only [wrOf, hi]
    obtain ⟨c1, st1', c2, c3, c4⟩ := commute hwf hi hj hI hpj hapj hpi hapi (by rw [← hwj]; exact hd1) (by rw [← hwi']; exact hd2)
    have hok1 : pairOk ops i (refsAt st (usesOf ops i)) (wrOf ops i st) log = true := pairOk_iff.2 fun p hm => pairOk_iff.1 hok2 p (List.mem_cons_of_mem _ hm)
    have hsl' := slots_frame hwf hi hI.symm c1 c2
    have hrj : refsAt st1' (usesOf ops j) = refsAt st (usesOf ops j) := refsAt_congr hsl'
    have hwj2 : wrOf ops j st1' = wrOf ops j st := by
      simp only [wrOf, hj]
      exact wrAt_congr hj hsl'
    rw [hok1, cond_true, c1, opt_val, c2, opt_val, hrj, hwj2]
    have hok3 : pairOk ops j (refsAt st (usesOf ops j)) (wrOf ops j st) ((i, refsAt st (usesOf ops i), wrOf ops i st) :: log) = true := by
      refine pairOk_iff.2 fun p hm => ?_
      rcases List.mem_cons.1 hm with rfl | hm
      · exact .inl ⟨hd2, hd1⟩
      · exact pairOk_iff.1 hok p hm
    rw [hok3, cond_true, c3, opt_val, c4, opt_val]
    refine opsD_log _ _ _ _ (fun p hm => ?_) h2
    rcases List.mem_cons.1 hm with rfl | hm
    · exact List.mem_cons_of_mem _ List.mem_cons_self
    · rcases List.mem_cons.1 hm with rfl | hm
      · exact List.mem_cons_self
      · exact List.mem_cons_of_mem _ (List.mem_cons_of_mem _ hm)

/-- What lies ahead of an operation has been done, where its edges have. -/
theorem anc_in {S : Nat → Prop} (hS : ∀ k o, S k → nthOp ops k = some o → ∀ e ∈ anyEdges o, S e) : ∀ (rest pre : List Oper) (dn : List (List Nat)), ops = pre ++ rest → dn.length = pre.length →
    (∀ k o, nthOp ops k = some o → (∀ e ∈ anyEdges o, S e) → ∀ x ∈ dn.getD k [], S x) → ∀ k o, nthOp ops k = some o → (∀ e ∈ anyEdges o, S e) → ∀ x ∈ (ancBuild dn rest).getD k [], S x := by
  intro rest
  induction rest with
  | nil => intro pre dn _ _ h; exact h
  | cons o rest ih =>
    intro pre dn he hl h
    simp only [ancBuild]
    refine ih (pre ++ [o]) _ (by simp [he]) (by simp [hl]) ?_
    intro k ok hk hedge x hx
    rw [List.getD_eq_getElem?_getD] at hx
    by_cases h1 : k < dn.length
    · rw [List.getElem?_append_left h1] at hx
      exact h k ok hk hedge x (by rw [List.getD_eq_getElem?_getD]; exact hx)
    · by_cases h2 : k = dn.length
      · subst h2
        have : ok = o := by
          rw [nthOp_get, he, hl] at hk
          simp at hk; exact hk.symm
        subst this
        simp only [List.length_append, List.getElem?_concat_length, Option.getD_some, List.mem_append, List.mem_flatMap] at hx
        rcases hx with hx | ⟨e, he', hx⟩
        · exact hedge x hx
        · have hSe := hedge e he'
          cases hoe : nthOp ops e with
          | none =>
            exfalso
            rw [nthOp_get] at hoe
            have hge := List.getElem?_eq_none_iff.1 hoe
            rw [List.getD_eq_getElem?_getD, List.getElem?_eq_none (by rw [he] at hge; simp at hge; omega)] at hx
            cases hx
          | some oe => exact h e oe hoe (hS e oe hSe hoe) x hx
      · rw [List.getElem?_eq_none (by simp; omega)] at hx
        cases hx

end
end Go.Proofs.YthbncndefigidaaDoor.DS

namespace Go.Proofs.YthbncndefigidaaDoor.DS

section
variable {P : Program} {E : Env} {X : Nat → Prop} {w0 : World} {Mx : Mem} {pv : Nat → Option Value} {callk : Nat → List D → R}

def remOf (n : Nat) (listed : Array Bool) : List Nat := (List.range n).filter fun i => !listed.getD i true

theorem mem_remOf {n : Nat} {listed : Array Bool} {i : Nat} (hs : listed.size = n) : i ∈ remOf n listed ↔ i < n ∧ listed.getD i false = false := by
  unfold remOf
  simp only [List.mem_filter, List.mem_range, Bool.not_eq_true']
  constructor
  · rintro ⟨h1, h2⟩
    refine ⟨h1, ?_⟩
    simp only [Array.getD_eq_getD_getElem?] at h2 ⊢
    rw [Array.getElem?_eq_getElem (by omega)] at h2 ⊢
    exact h2
  · rintro ⟨h1, h2⟩
    refine ⟨h1, ?_⟩
    simp only [Array.getD_eq_getD_getElem?] at h2 ⊢
    rw [Array.getElem?_eq_getElem (by omega)] at h2 ⊢
    exact h2
theorem getD_set {listed : Array Bool} {i k : Nat} (h : i < listed.size) (d : Bool) : (listed.setIfInBounds i true).getD k d = if k = i then true else listed.getD k d := by
  simp only [Array.getD_eq_getD_getElem?, Array.getElem?_setIfInBounds]
  by_cases e : i = k
  · subst e; simp [h]
  · have e2 : ¬ k = i := fun h => e h.symm
    simp [e, e2]

theorem mem_anyEdges {o : Oper} {e : Nat} : e ∈ anyEdges o ↔ ∃ x ∈ o.after.toList, Region.binds .any x = true ∧ x.on = e := by
  simp [anyEdges, and_assoc]
theorem mem_ready {ops : Array Oper} {listed : Array Bool} (hs : listed.size = ops.size) {i : Nat} : i ∈ Region.ready .any ops listed ↔ i ∈ remOf ops.size listed ∧ ∃ o, nthOp ops.toList i = some o ∧ ∀ e ∈ anyEdges o, listed.getD e false = true := by
  unfold Region.ready remOf
  simp only [List.mem_filter, List.mem_range, Bool.and_eq_true]
  constructor
  · rintro ⟨h1, h2, h3⟩
    refine ⟨⟨h1, h2⟩, ops[i], by rw [nthOp_toList]; simp [h1], ?_⟩
    rw [Array.getElem?_eq_getElem h1] at h3
    simp only [Option.map_some, Option.getD_some, Array.all_eq_true_iff_forall_mem] at h3
    intro e he
    obtain ⟨x, hx, hb, rfl⟩ := mem_anyEdges.1 he
    have := h3 x (Array.mem_toList_iff.1 hx)
    rw [hb] at this
    simpa using this
  · rintro ⟨⟨h1, h2⟩, o, ho, hedge⟩
    refine ⟨h1, h2, ?_⟩
    rw [nthOp_toList] at ho
    rw [ho]
    simp only [Option.map_some, Option.getD_some, Array.all_eq_true_iff_forall_mem]
    intro x hx
    cases hb : Region.binds .any x with
    | false => rfl
    | true =>
      have := hedge x.on (mem_anyEdges.2 ⟨x, Array.mem_toList_iff.2 hx, hb, rfl⟩)
      rw [this]; rfl

theorem rem_split {n : Nat} {listed : Array Bool} (hs : listed.size = n) {i : Nat} (hi : i ∈ remOf n listed) : ∃ l1 l2, remOf n listed = l1 ++ i :: l2 ∧ (∀ j ∈ l1, j < i ∧ j ∈ remOf n listed) ∧ remOf n (listed.setIfInBounds i true) = l1 ++ l2 := by
  obtain ⟨l1, l2, hl⟩ := List.append_of_mem hi
  have hp : (remOf n listed).Pairwise (· < ·) := (List.pairwise_lt_range).filter _
  have hin := (mem_remOf hs).1 hi
  rw [hl] at hp
  obtain ⟨p1, p2, p3⟩ := List.pairwise_append.1 hp
  have p4 := (List.pairwise_cons.1 p2).1
  refine ⟨l1, l2, hl, fun j hj => ⟨p3 j hj i List.mem_cons_self, by rw [hl]; exact List.mem_append_left _ hj⟩, ?_⟩
  have : remOf n (listed.setIfInBounds i true) = (remOf n listed).filter (fun k => !(Nat.beq k i)) := by
    unfold remOf
    rw [List.filter_filter]
    apply List.filter_congr
    intro k hk
    rw [getD_set (by omega)]
    by_cases e : k = i
    · subst e; simp [beq_self]
    · simp [e, beq_false.2 e]
  rw [this, hl, List.filter_append, List.filter_cons]
  simp only [beq_self, Bool.not_true]
  have f1 : l1.filter (fun k => !(Nat.beq k i)) = l1 := List.filter_eq_self.2 fun k hk => by
    have := p3 k hk i List.mem_cons_self
    rw [beq_false.2 (by omega)]; rfl
  have f2 : l2.filter (fun k => !(Nat.beq k i)) = l2 := List.filter_eq_self.2 fun k hk => by
    have := p4 k hk
    rw [beq_false.2 (by omega)]; rfl
  rw [f1, f2]; rfl

theorem edges_spec {ops : List Oper} (h : edgesOk ops = true) {i : Nat} {o : Oper} (hi : nthOp ops i = some o) {e : Nat} (he : e ∈ anyEdges o) : e < i := by
  have := allBelow_spec h i (nthOp_lt hi)
  rw [hi] at this
  exact Nat.le_of_ble_eq_true (List.all_eq_true.1 this e he)

theorem anc_lt {ops : List Oper} (h : edgesOk ops = true) {j : Nat} {o : Oper} (hj : nthOp ops j = some o) : ∀ x ∈ (ancs ops).getD j [], x < j := by
  have := anc_in (ops := ops) (S := fun k => k < j) (fun k o hk ho e he => by have := edges_spec h ho he; omega) ops [] [] rfl rfl (fun k o _ _ x hx => by simp at hx) j o hj (fun e he => edges_spec h hj he)
  exact this

theorem guards_weak {ops : List Oper} (h : guardsOk ops true = true) : guardsOk ops false = true := by
  have key : ∀ n : Nat, ∀ p q : Nat → Bool, (∀ i, p i = true → q i = true) → allBelow n p = true → allBelow n q = true := by
    intro n p q hpq
    induction n with
    | zero => intro _; rfl
    | succ n ih =>
      intro h
      simp only [allBelow] at h ⊢
      cases hp : p n with
      | false => rw [hp] at h; cases h
      | true => rw [hp] at h; rw [hpq n hp]; exact ih h
  refine key _ _ _ (fun i hi => ?_) h
  cases hn : nthOp ops i with
  | none => rw [hn] at hi; cases hi
  | some o =>
    rw [hn] at hi
    simp only at hi ⊢
    cases hgu : o.guard with
    | none => rfl
    | some g =>
      rw [hgu] at hi
      simp only [Bool.and_eq_true] at hi ⊢
      exact ⟨hi.1, hi.2.1, by simp⟩
theorem any_sound {α : Type} (hT : TTok P E.tt) {W0 : World} (hS : Same W0 w0) (hX : ∀ b, X b → W0.heap.size ≤ b) (hcall : CallOK P E W0 callk) {ops : Array Oper} (hn : nodupN (dstsOf ops.toList) = true) (hg : guardsOk ops.toList true = true) (hed : edgesOk ops.toList = true) (hpr : pairsOk ops.toList (ancs ops.toList) = true) (hpn : ∀ i o, nthOp ops.toList i = some o → ∀ t, o.dst = some t → pv t = none)
    {Q : Exit → Act → World → Prop} {K : St → Option α} {r : α} (hQ : ∀ st' a' w', RI E X w0 Mx pv ops.toList (fun k => k < ops.size) st' a' w' → K st' = some r → Q .normal a' w') :
    ∀ fuel listed log st a w, listed.size = ops.size → (remOf ops.size listed).length ≤ fuel → (∀ k o, listed.getD k false = true → nthOp ops.toList k = some o → ∀ e ∈ anyEdges o, listed.getD e false = true) →
    RI E X w0 Mx pv ops.toList (fun k => listed.getD k false = true) st a w → opsD E callk ops.toList (remOf ops.size listed) log st K = some r → wpAny P .any ops Q fuel listed a w := by
  have hend : ∀ (listed : Array Bool) log st a w, listed.size = ops.size → remOf ops.size listed = [] → RI E X w0 Mx pv ops.toList (fun k => listed.getD k false = true) st a w → opsD E callk ops.toList (remOf ops.size listed) log st K = some r → Q .normal a w := by
    intro listed log st a w hs he h hk
    rw [he] at hk
    refine hQ st a w (h.congr fun k => ?_) hk
    constructor
    · intro hk
      rw [Array.getD_eq_getD_getElem?] at hk
      by_cases h1 : k < listed.size
      · omega
      · rw [Array.getElem?_eq_none (by omega)] at hk; cases hk
    · intro hk
      cases hl : listed.getD k false with
      | true => rfl
      | false =>
        have := (mem_remOf hs).2 ⟨hk, hl⟩
        rw [he] at this; cases this
  have hready : ∀ (listed : Array Bool), listed.size = ops.size → Region.ready .any ops listed = [] → remOf ops.size listed = [] := by
    intro listed hs hr
    cases hl : remOf ops.size listed with
    | nil => rfl
    | cons m rest =>
      exfalso
      have hm : m ∈ remOf ops.size listed := by rw [hl]; exact List.mem_cons_self
      have hp : (remOf ops.size listed).Pairwise (· < ·) := (List.pairwise_lt_range).filter _
      rw [hl] at hp
      have hmin := (List.pairwise_cons.1 hp).1
      have hmlt := ((mem_remOf hs).1 hm).1
      have ho : nthOp ops.toList m = some ops[m] := by rw [nthOp_toList]; simp [hmlt]
      have : m ∈ Region.ready .any ops listed := by
        refine (mem_ready hs).2 ⟨hm, ops[m], ho, fun e he => ?_⟩
        have hlt := edges_spec hed ho he
        cases hle : listed.getD e false with
        | true => rfl
        | false =>
          have := (mem_remOf hs).2 ⟨by omega, hle⟩
          rw [hl] at this
          rcases List.mem_cons.1 this with h | h
          · omega
          · have := hmin e h; omega
      rw [hr] at this; cases this
  intro fuel
  induction fuel with
  | zero =>
    intro listed log st a w hs hlen hclo h hk
    have he : remOf ops.size listed = [] := List.eq_nil_of_length_eq_zero (by omega)
    refine ⟨?_, hend listed log st a w hs he h hk⟩
    cases hr : Region.ready .any ops listed with
    | nil => rfl
    | cons x xs =>
      have : x ∈ Region.ready .any ops listed := by rw [hr]; exact List.mem_cons_self
      have := ((mem_ready hs).1 this).1
      rw [he] at this; cases this
  | succ fuel ih =>
    intro listed log st a w hs hlen hclo h hk
    refine ⟨fun hr => hend listed log st a w hs (hready listed hs hr) h hk, fun i hi => ?_⟩
    obtain ⟨hrem, o, ho, hedge⟩ := (mem_ready hs).1 hi
    obtain ⟨hil, hiu⟩ := (mem_remOf hs).1 hrem
    obtain ⟨l1, l2, hl, hl1, hset⟩ := rem_split hs hrem
    have hk' := hk
    rw [hl] at hk'
    have hind : ∀ j ∈ l1, ∃ oj, nthOp ops.toList j = some oj ∧ Indep ops.toList i j o oj ∧ j ∉ (ancs ops.toList).getD i [] ∧ i ∉ (ancs ops.toList).getD j [] ∧ j < i := by
      intro j hj
      obtain ⟨hji, hjr⟩ := hl1 j hj
      obtain ⟨hjl, hju⟩ := (mem_remOf hs).1 hjr
      have hoj : nthOp ops.toList j = some ops[j] := by rw [nthOp_toList]; simp [hjl]
      have hanc : ∀ x ∈ (ancs ops.toList).getD i [], listed.getD x false = true := anc_in (ops := ops.toList) (S := fun k => listed.getD k false = true) (fun k o h1 h2 => hclo k o h1 h2) ops.toList [] [] rfl rfl (fun k o _ _ x hx => by simp at hx) i o ho hedge
      have hnj : j ∉ (ancs ops.toList).getD i [] := fun h => by have := hanc j h; rw [hju] at this; cases this
      have hni : i ∉ (ancs ops.toList).getD j [] := fun h => by have := anc_lt hed hoj i h; omega
      refine ⟨ops[j], hoj, ?_, hnj, hni, hji⟩
      have hpair := allBelow_spec (allBelow_spec hpr i (by simpa using hil)) j hji
      rcases Bool.or_eq_true _ _ ▸ hpair with hp | hp
      · exfalso
        exact hnj (memN_iff.1 hp)
      · exact (indep_spec hoj ho hp).symm
    have hfr := front ho l1 log st h.wf hind hk'
    have hgd' : ∀ j w, o.guard = some (j, w) → listed.getD j false = true := fun j w hgd => by
      obtain ⟨_, _, _, _, _, _, he⟩ := guards_spec hg ho hgd
      exact hedge j (he rfl)
    have hnext : ∀ st' log' a' w', opsD E callk ops.toList (l1 ++ l2) log' st' K = some r → RI E X w0 Mx pv ops.toList (fun k => listed.getD k false = true ∨ k = i) st' a' w' → wpAny P .any ops Q fuel (listed.setIfInBounds i true) a' w' := by
      intro st' log' a' w' hfr h'
      refine ih (listed.setIfInBounds i true) log' st' a' w' (by simp [hs]) ?_ ?_ (h'.congr fun k => ?_) (by rw [hset]; exact hfr)
      · rw [hset]; rw [hl] at hlen; simp at hlen ⊢; omega
      · intro k ok hk1 hok e he
        rw [getD_set (by omega)] at hk1 ⊢
        by_cases e1 : e = i
        · simp [e1]
        · rw [if_neg e1]
          by_cases e2 : k = i
          · subst e2; rw [ho] at hok; injection hok with hok; subst hok; exact hedge e he
          · rw [if_neg e2] at hk1; exact hclo k ok hk1 hok e he
      · rw [getD_set (by omega)]
        by_cases e : k = i
        · simp [e]
        · simp [e]
    simp only [opsD] at hfr
    cases hlast : (cond (isNilL (l1 ++ l2)) (lastOf ops.toList i) false) with
    | false =>
      rw [hlast] at hfr
      simp only [cond_false, opK_eqT] at hfr
      obtain ⟨_, hfr⟩ := cond_some.1 hfr
      obtain ⟨p, hp, hfr⟩ := opt_some.1 hfr
      obtain ⟨st', hu, hfr⟩ := opt_some.1 hfr
      exact op_sound hT hS hX hcall hn hg ho (by simp only [hiu]; decide) hgd' (hpn _ _ ho) h hp hu fun a' w' h' => hnext st' _ a' w' hfr h'
    | true =>
      rw [hlast] at hfr
      simp only [cond_true] at hfr
      have hg' : guardsOk ops.toList false = true := guards_weak hg
      cases hH : isH E ops.toList false i st with
      | false =>
        rw [opK_eq _ _ _ _ _ _ _ (.inr hH)] at hfr
        obtain ⟨p, hp, hfr⟩ := opt_some.1 hfr
        obtain ⟨st', hu, hfr⟩ := opt_some.1 hfr
        exact op_sound hT hS hX hcall hn hg' ho (by simp only [hiu]; decide) hgd' (hpn _ _ ho) h hp hu fun a' w' h' => hnext st' _ a' w' hfr h'
      | true =>
        unfold isH at hH
        rw [ho] at hH
        simp only at hH
        unfold opK at hfr
        rw [ho] at hfr
        simp only at hfr
        cases hch : chainOf ops.toList i with
        | cons _ _ => rw [hch] at hH; cases hH
        | nil =>
          rw [hch] at hH hfr
          simp only at hH hfr
          cases hop : opO E false st ops.toList [] o with
          | none => rw [hop] at hH; cases hH
          | some out =>
            rw [hop] at hH hfr
            cases out with
            | hcall f ds sg rows boxes =>
              simp only [cond_false] at hfr
              obtain ⟨r', hr', hfr⟩ := opt_some.1 hfr
              obtain ⟨st', hu, hfr⟩ := opt_some.1 hfr
              exact hop_sound hT hS hX hcall hn hg' ho (by simp only [hiu]; decide) hgd' (hpn _ _ ho) h hch hop hr' hu fun a' w' h' => hnext st' _ a' w' hfr h'
            | _ => cases hH

/-- How state and memory stand between regions. -/
structure SI (E : Env) (X : Nat → Prop) (w0 : World) (Mx : Mem) (pv : Nat → Option Value) (st : St) (a : Act) (w : World) : Prop where
  ex : ∃ ι M, HRel E.tt X w0 Mx ι M st.objs w ∧ ∀ t s, st.slots t = some s → SVRel E.tt ι M s (a.eval (.tmp t))
  wf : WF st
  size : a.tmps.size = st.n
  defers : a.defers = []
  pin : ∀ p v, pv p = some v → a.eval (.tmp p) = v

theorem dropGuarded_spec : ∀ (ops : List Oper) (f : Nat → Option SV) (t : Nat) (s : SV), dropGuarded ops f t = some s → f t = some s ∧ ∀ (o : Oper), o ∈ ops → o.dst = some t → o.guard = none := by
  intro ops
  induction ops with
  | nil => intro f t s h; exact ⟨h, fun o ho => by cases ho⟩
  | cons o r ih =>
    intro f t s h
    have key : ∀ f', dropGuarded r f' t = some s → f' = f → (o.dst = some t → o.guard = none) → f t = some s ∧ ∀ (o' : Oper), o' ∈ o :: r → o'.dst = some t → o'.guard = none := by
      intro f' h' e ho
      subst e
      obtain ⟨h1, h2⟩ := ih f' t s h'
      refine ⟨h1, fun o' ho' hd => ?_⟩
      rcases List.mem_cons.1 ho' with rfl | ho'
      · exact ho hd
      · exact h2 o' ho' hd
    simp only [dropGuarded] at h
    cases hg : o.guard with
    | none => rw [hg] at h; exact key f h rfl (fun _ => hg)
    | some g =>
      cases hu : o.dst with
      | none => rw [hg, hu] at h; exact key f h rfl (fun e => by rw [hu] at e; cases e)
      | some u =>
        rw [hg, hu] at h
        simp only at h
        by_cases e : t = u
        · subst e; rw [put_same] at h; cases h
        · rw [put_other _ _ _ e] at h
          refine key f h rfl (fun e2 => ?_)
          rw [hu] at e2; injection e2 with e2; exact absurd e2.symm e

theorem RI.of_si {ops : List Oper} {st : St} {a : Act} {w : World} (h : SI E X w0 Mx pv st a w) : RI E X w0 Mx pv ops (fun _ => False) st a w := by
  obtain ⟨⟨ι, M, H, hs⟩, hwf, hsz, hdf, hpin⟩ := h
  exact ⟨⟨ι, M, H, fun t s ht _ => hs t s ht⟩, fun i o t b h => h.elim, fun i o j w h => h.elim, hwf, hsz, hdf, hpin⟩
theorem RI.to_si {ops : List Oper} {done : Nat → Prop} {st : St} {a : Act} {w : World} (h : RI E X w0 Mx pv ops done st a w) : SI E X w0 Mx pv (endRegion ops st) a w := by
  obtain ⟨⟨ι, M, H, hs⟩, hgi, hcl, hwf, hsz, hdf, hpin⟩ := h
  refine ⟨⟨ι, M, H, fun t s ht => ?_⟩, ⟨?_, hwf.cells⟩, hsz, hdf, hpin⟩
  · obtain ⟨h1, h2⟩ := dropGuarded_spec ops st.slots t s ht
    refine hs t s h1 fun i o _ hi hd => ?_
    rw [chain_none hi (h2 o (by rw [nthOp_get] at hi; exact List.mem_of_getElem? hi) hd)]
    intro p hp; cases hp
  · intro t s ht i hi
    exact hwf.slots t s (dropGuarded_spec ops st.slots t s ht).1 i hi

/-- A region. -/
theorem region_sound {α : Type} (hm : P.follows .mixedOrders = true) (hT : TTok P E.tt) {W0 : World} (hS : Same W0 w0) (hX : ∀ b, X b → W0.heap.size ≤ b) (hcall : CallOK P E W0 callk) {id : Nat} {ops : Array Oper} {draw : Bool} (hok : okRegion ops.toList draw = true) (hpn : ∀ i o, nthOp ops.toList i = some o → ∀ t, o.dst = some t → pv t = none) {Q : Exit → Act → World → Prop} {K : St → Option α} {r : α}
    (hQ : ∀ st' a' w', SI E X w0 Mx pv (endRegion ops.toList st') a' w' → K st' = some r → Q .normal a' w') {st : St} {a : Act} {w : World} (h : SI E X w0 Mx pv st a w) (hk : cond draw (opsD E callk ops.toList (upFrom 0 ops.size) [] st K) (opsK E callk ops.toList false (upFrom 0 ops.size) st K) = some r) :
    (Code.region id ops draw).wp P Q a w := by
  unfold okRegion at hok
  simp only [Bool.and_eq_true, Bool.or_eq_true, Bool.not_eq_true'] at hok
  obtain ⟨hn, hg, hd⟩ := hok
  cases draw with
  | false =>
    apply wp_region
    rw [List.range_eq_range']
    refine ops_sound hT hS hX hcall hn hg hpn (fun st' a' w' h' hk' => hQ st' a' w' h'.to_si hk') ops.size 0 st a w (by omega) ((RI.of_si h).congr fun k => ⟨fun h => h.elim, fun h => absurd h (Nat.not_lt_zero _)⟩) hk
  | true =>
    rcases hd with hd | ⟨hed, hpr⟩
    · cases hd
    apply wp_region_any hm
    have hrem : remOf ops.size (Array.replicate ops.size false) = upFrom 0 ops.size := by
      have h1 : remOf ops.size (Array.replicate ops.size false) = List.range ops.size := by
        unfold remOf
        apply List.filter_eq_self.2
        intro i hi
        have := List.mem_range.1 hi
        simp [Array.getD_eq_getD_getElem?, this]
      have h2 : ∀ n i, upFrom i n = List.range' i n := by
        intro n
        induction n with
        | zero => intro i; rfl
        | succ n ih => intro i; simp only [upFrom, ih, List.range'_succ]
      rw [h1, h2, List.range_eq_range']
    have hfalse : ∀ k, (Array.replicate ops.size false).getD k false = false := by
      intro k
      simp only [Array.getD_eq_getD_getElem?, Array.getElem?_replicate]
      split <;> rfl
    have h' : SI E X w0 Mx pv st a { w with drawn := w.drawn + 1 } := by
      obtain ⟨⟨ι, M, H, hs⟩, hwf, hsz, hdf, hpin⟩ := h
      refine ⟨⟨ι, M, ⟨fun i o hi => (H.obj i o hi).same (fun _ _ => rfl), H.disj, H.own, H.mem, H.memx, H.memB, H.os, H.tape, H.output, H.size, H.keep⟩, hs⟩, hwf, hsz, hdf, hpin⟩
    refine any_sound hT hS hX hcall hn hg hed hpr hpn (fun st' a' w' h' hk' => hQ st' a' w' h'.to_si hk') ops.size _ [] st a _ (by simp) ?_ (fun k o h1 => by rw [hfalse] at h1; cases h1) ((RI.of_si h').congr fun k => ?_) (by rw [hrem]; exact hk)
    · rw [hrem]
      have h2 : ∀ n i, (upFrom i n).length = n := by
        intro n
        induction n with
        | zero => intro i; rfl
        | succ n ih => intro i; simp [upFrom, ih]
      rw [h2]; omega
    · rw [hfalse]; simp

end
end Go.Proofs.YthbncndefigidaaDoor.DS

namespace Go.Proofs.YthbncndefigidaaDoor.DS

section
variable {P : Program} {E : Env} {X : Nat → Prop} {w0 : World} {Mx : Mem} {pv : Nat → Option Value}

theorem frzCells_get (id : Nat) (e : TypeId) (es : List D) (l : List SV) (i : Nat) : (frzCells id e es l)[i]? = (l[i]?).map (frzSV0 id e es) := by
  induction l generalizing i with
  | nil => simp [frzCells]
  | cons s r ih => cases i <;> simp [frzCells, ih]
theorem frzCells_length (id : Nat) (e : TypeId) (es : List D) (l : List SV) : (frzCells id e es l).length = l.length := by
  induction l with
  | nil => rfl
  | cons s r ih => simp [frzCells, ih]
theorem refsOf_frz0 {id : Nat} {e : TypeId} {es : List D} {s : SV} {i : Nat} (h : i ∈ refsOf (frzSV0 id e es s)) : i ∈ refsOf s ∧ i ≠ id := by
  unfold frzSV0 at h
  split at h
  · rename_i j
    cases hb : Nat.beq j id with
    | true => rw [hb] at h; cases h
    | false =>
      rw [hb] at h
      simp only [cond_false, refsOf, refs0, List.mem_singleton] at h
      subst h
      exact ⟨by simp [refsOf, refs0], beq_false.1 hb⟩
  · cases h
  · cases hn : s.names id with
    | true => rw [hn] at h; cases h
    | false =>
      rw [hn] at h
      refine ⟨h, fun e => ?_⟩
      subst e
      exact memN_false hn h
theorem refs0_frz {id : Nat} {e : TypeId} {es : List D} {s : SV} {i : Nat} (h : i ∈ refs0 (frzSV0 id e es s)) : i ∈ refs0 s ∧ i ≠ id := by
  have := refsOf_frz0 (refs_of_refs0 h)
  refine ⟨?_, this.2⟩
  cases s with
  | tup l =>
    exfalso
    unfold frzSV0 at h
    simp only at h
    cases hn : (SV.tup l).names id with
    | true => rw [hn] at h; cases h
    | false => rw [hn] at h; cases h
  | sag t ks l =>
    exfalso
    unfold frzSV0 at h
    simp only at h
    cases hn : (SV.sag t ks l).names id with
    | true => rw [hn] at h; cases h
    | false => rw [hn] at h; cases h
  | _ => exact this.1
theorem refs_frz {id : Nat} {e : TypeId} {es : List D} {s : SV} {i : Nat} (h : i ∈ refsOf (frzSV id e es s)) : i ∈ refsOf s ∧ i ≠ id := by
  cases s with
  | sag t ks l =>
    obtain ⟨s1, hs1, hi⟩ := mem_refsL.1 (show i ∈ refsL (frzCells id e es l) from h)
    obtain ⟨n, hn⟩ := List.mem_iff_getElem?.1 hs1
    rw [frzCells_get, Option.map_eq_some_iff] at hn
    obtain ⟨s0, hs0, rfl⟩ := hn
    obtain ⟨h1, h2⟩ := refs0_frz hi
    exact ⟨mem_refsL.2 ⟨s0, List.mem_of_getElem? hs0, h1⟩, h2⟩
  | _ => exact refsOf_frz0 (e := e) (es := es) h
theorem frz_rel0 {tt : TT} {ι : Nat → Value} {M M' : Mem} {id : Nat} {e : TypeId} {es : List D} {s : SV} {v : Value} (h : SVRel0 tt ι M s v) (hM : ∀ ad x, M ad = some x → M' ad = some x) (hr : Rep tt M' (.slice e) (ι id) (.list es)) : SVRel0 tt ι M' (frzSV0 id e es s) v := by
  have hgen : SVRel0 tt ι M' (cond (s.names id) .gone s) v := by
    cases s.names id with
    | true => trivial
    | false => exact h.congr (fun _ _ => rfl) hM
  cases s with
  | own j =>
    simp only [frzSV0]
    cases hb : Nat.beq j id with
    | true =>
      have := beq_iff.1 hb
      subst this
      obtain ⟨rfl, _⟩ : v = ι j ∧ _ := h
      exact hr
    | false => exact h.congr (fun _ _ => rfl) hM
  | val k d => exact h.congr (fun _ _ => rfl) hM
  | _ => exact hgen
theorem frz_rel {tt : TT} {ι : Nat → Value} {M M' : Mem} {id : Nat} {e : TypeId} {es : List D} {s : SV} {v : Value} (h : SVRel tt ι M s v) (hM : ∀ ad x, M ad = some x → M' ad = some x) (hr : Rep tt M' (.slice e) (ι id) (.list es)) : SVRel tt ι M' (frzSV id e es s) v := by
  have hgen : SVRel tt ι M' (cond (s.names id) .gone s) v := by
    cases s.names id with
    | true => trivial
    | false => exact h.congr (fun _ _ => rfl) hM
  cases s with
  | own j => exact .of0 (frz_rel0 (s := .own j) h hM hr)
  | val k d => exact h.congr (fun _ _ => rfl) hM
  | sag t ks l =>
    obtain ⟨ti, vs, h1, h2, h3, h4, h5, h6, h7⟩ := h
    refine ⟨ti, vs, h1, h2, h3, h4, by rw [frzCells_length]; exact h5, by rw [frzCells_length]; exact h6, fun i s x hs hx => ?_⟩
    rw [frzCells_get, Option.map_eq_some_iff] at hs
    obtain ⟨s0, hs0, rfl⟩ := hs
    exact frz_rel0 (h7 i s0 x hs0 hx) hM hr
  | _ => exact hgen
theorem frz_obj {tt : TT} {ι : Nat → Value} {M M' : Mem} {w : World} {id : Nat} {e : TypeId} {es : List D} {i : Nat} {o : Obj} (h : ObjRel tt ι M w i o) (hM : ∀ ad x, M ad = some x → M' ad = some x) (hr : Rep tt M' (.slice e) (ι id) (.list es)) : ObjRel tt ι M' w i (frzObj id e es o) := by
  have hc := h.congr (ι' := ι) (M' := M') (w' := w) rfl (fun _ _ => rfl) hM (fun _ _ => rfl)
  cases o with
  | arr e es => exact hc
  | map _ _ => exact hc
  | box t c =>
    cases c with
    | whole d => exact hc
    | cells l =>
      obtain ⟨ti, b, cs, h1, h2, h3, h5, h6, h7⟩ := h
      refine ⟨ti, b, cs, h1, h2, h3, h5, by rw [frzCells_length]; exact h6, fun j s c hs hcj => ?_⟩
      rw [frzCells_get, Option.map_eq_some_iff] at hs
      obtain ⟨s0, hs0, rfl⟩ := hs
      exact frz_rel0 (h7 j s0 c hs0 hcj) hM hr

theorem freeze_sound {st st' : St} {a : Act} {w : World} (h : SI E X w0 Mx pv st a w) {id : Nat} (hf : st.freeze id = some st') : SI E X w0 Mx pv st' a w := by
  unfold St.freeze at hf
  cases ho : st.objs id with
  | none => rw [ho] at hf; cases hf
  | some o =>
    cases o with
    | box t c => rw [ho] at hf; cases hf
    | map _ _ => rw [ho] at hf; cases hf
    | arr e es =>
      rw [ho] at hf
      injection hf with hf; subst hf
      obtain ⟨⟨ι, M, H, hs⟩, hwf, hsz, hdf, hpin⟩ := h
      obtain ⟨ei, he, _, har⟩ := H.obj id _ ho
      obtain ⟨M', hM, hMo, hMc, hr⟩ := frz_rep he har (fun b hb off sp => (H.own id _ b ho hb).2 off sp)
      have hobj : ∀ i o', put (fun i => omap (frzObj id e es) (st.objs i)) id none i = some o' → i ≠ id ∧ ∃ o, st.objs i = some o ∧ o' = frzObj id e es o := by
        intro i o' h
        by_cases hi : i = id
        · subst hi; rw [put_same] at h; cases h
        · rw [put_other _ _ _ hi] at h
          cases hob : st.objs i with
          | none => rw [hob] at h; cases h
          | some o => rw [hob] at h; injection h with h; exact ⟨hi, o, rfl, h.symm⟩
      have hin : ∀ i o, i ≠ id → st.objs i = some o → ∃ o', put (fun i => omap (frzObj id e es) (st.objs i)) id none i = some o' := by
        intro i o hi ho'
        rw [put_other _ _ _ hi, ho']; exact ⟨_, rfl⟩
      refine ⟨⟨ι, M', ⟨?_, ?_, ?_, ?_, fun ad v h => hM ad v (H.memx ad v h), ?_, H.os, H.tape, H.output, H.size, H.keep⟩, ?_⟩, ⟨?_, ?_⟩, hsz, hdf, hpin⟩
      · intro i o' h
        obtain ⟨hi, o, ho', rfl⟩ := hobj i o' h
        exact frz_obj (H.obj i o ho') hM hr
      · intro i j oi oj b hi hj hij hbi hbj
        obtain ⟨_, o1, h1, _⟩ := hobj i oi hi
        obtain ⟨_, o2, h2, _⟩ := hobj j oj hj
        exact H.disj i j o1 o2 b h1 h2 hij hbi hbj
      · intro i o' b h hb
        obtain ⟨hi, o, ho', _⟩ := hobj i o' h
        obtain ⟨q1, q2⟩ := H.own i o b ho' hb
        refine ⟨q1, fun off sp => ?_⟩
        rw [hMo ⟨b, off, sp⟩ (fun e => H.disj i id o _ b ho' ho hi hb e)]
        exact q2 off sp
      · intro ad v hv
        rcases hMc ad v hv with h | h
        · exact H.mem ad v h
        · exact h
      · intro ad hb hX
        rw [hMo ad (fun e => ?_)]
        · exact H.memB ad hb hX
        · rcases (H.own id _ ad.block ho e).1 with h | h
          · omega
          · exact hX h
      · intro t s ht
        simp only at ht
        cases hst : st.slots t with
        | none => rw [hst] at ht; cases ht
        | some s0 =>
          rw [hst] at ht; injection ht with ht; subst ht
          exact frz_rel (hs t s0 hst) hM hr
      · intro t s ht i hi
        simp only at ht ⊢
        cases hst : st.slots t with
        | none => rw [hst] at ht; cases ht
        | some s0 =>
          rw [hst] at ht; injection ht with ht; subst ht
          obtain ⟨h1, h2⟩ := refs_frz hi
          obtain ⟨o, ho'⟩ := hwf.slots t s0 hst i h1
          exact hin i o h2 ho'
      · intro j o' hj i hi
        obtain ⟨hji, o, ho', rfl⟩ := hobj j o' hj
        have : i ∈ objRefs0 o ∧ i ≠ id := by
          cases o with
          | arr _ _ => cases hi
          | map _ _ => cases hi
          | box t c =>
            cases c with
            | whole d => cases hi
            | cells l =>
              obtain ⟨s, hs1, hi⟩ := mem_refsL.1 hi
              obtain ⟨n, hn⟩ := List.mem_iff_getElem?.1 hs1
              rw [frzCells_get, Option.map_eq_some_iff] at hn
              obtain ⟨s0, hs0, rfl⟩ := hn
              obtain ⟨h1, h2⟩ := refs0_frz hi
              exact ⟨mem_refsL.2 ⟨s0, List.mem_of_getElem? hs0, h1⟩, h2⟩
        obtain ⟨o2, ho2⟩ := hwf.cells j o ho' i this.1
        exact hin i o2 this.2 ho2

theorem frzAll_sound {a : Act} {w : World} : ∀ (l : List Nat) (st st' : St), SI E X w0 Mx pv st a w → frzAll l st = some st' → SI E X w0 Mx pv st' a w := by
  intro l
  induction l with
  | nil => intro st st' h hf; injection hf with hf; subst hf; exact h
  | cons id r ih =>
    intro st st' h hf
    obtain ⟨st1, h1, hf⟩ := opt_some.1 hf
    exact ih st1 st' (freeze_sound h h1) hf

end
end Go.Proofs.YthbncndefigidaaDoor.DS

namespace Go.Proofs.YthbncndefigidaaDoor.DS

section
variable {P : Program} {E : Env} {X : Nat → Prop} {w0 : World} {Mx : Mem} {pv : Nat → Option Value}

theorem renCells_get (id rid : Nat) (l : List SV) (i : Nat) : (renCells id rid l)[i]? = (l[i]?).map (renSV0 id rid) := by
  induction l generalizing i with
  | nil => simp [renCells]
  | cons s r ih => cases i <;> simp [renCells, ih]
theorem renCells_length (id rid : Nat) (l : List SV) : (renCells id rid l).length = l.length := by
  induction l with
  | nil => rfl
  | cons s r ih => simp [renCells, ih]
theorem refsOf_ren0 {id rid : Nat} {s : SV} {i : Nat} (h : i ∈ refsOf (renSV0 id rid s)) : i = rid ∧ id ∈ refsOf s ∨ i ∈ refsOf s ∧ i ≠ id := by
  unfold renSV0 at h
  split at h
  · rename_i j
    cases hb : Nat.beq j id with
    | true =>
      rw [hb] at h
      simp only [cond_true, refsOf, refs0, List.mem_singleton] at h
      exact .inl ⟨h, by simp [refsOf, refs0, beq_iff.1 hb]⟩
    | false =>
      rw [hb] at h
      simp only [cond_false, refsOf, refs0, List.mem_singleton] at h
      subst h
      exact .inr ⟨by simp [refsOf, refs0], beq_false.1 hb⟩
  · cases h
  · cases hn : s.names id with
    | true => rw [hn] at h; cases h
    | false =>
      rw [hn] at h
      refine .inr ⟨h, fun e => ?_⟩
      subst e
      exact memN_false hn h
theorem refs0_ren {id rid : Nat} {s : SV} {i : Nat} (h : i ∈ refs0 (renSV0 id rid s)) : i = rid ∧ id ∈ refs0 s ∨ i ∈ refs0 s ∧ i ≠ id := by
  have := refsOf_ren0 (refs_of_refs0 h)
  cases s with
  | tup l =>
    exfalso
    unfold renSV0 at h
    simp only at h
    cases hn : (SV.tup l).names id with
    | true => rw [hn] at h; cases h
    | false => rw [hn] at h; cases h
  | sag t ks l =>
    exfalso
    unfold renSV0 at h
    simp only at h
    cases hn : (SV.sag t ks l).names id with
    | true => rw [hn] at h; cases h
    | false => rw [hn] at h; cases h
  | _ => exact this
theorem refs_ren {id rid : Nat} {s : SV} {i : Nat} (h : i ∈ refsOf (renSV id rid s)) : i = rid ∧ id ∈ refsOf s ∨ i ∈ refsOf s ∧ i ≠ id := by
  cases s with
  | sag t ks l =>
    obtain ⟨s1, hs1, hi⟩ := mem_refsL.1 (show i ∈ refsL (renCells id rid l) from h)
    obtain ⟨n, hn⟩ := List.mem_iff_getElem?.1 hs1
    rw [renCells_get, Option.map_eq_some_iff] at hn
    obtain ⟨s0, hs0, rfl⟩ := hn
    rcases refs0_ren hi with ⟨h1, h2⟩ | ⟨h1, h2⟩
    · exact .inl ⟨h1, mem_refsL.2 ⟨s0, List.mem_of_getElem? hs0, h2⟩⟩
    · exact .inr ⟨mem_refsL.2 ⟨s0, List.mem_of_getElem? hs0, h1⟩, h2⟩
  | _ => exact refsOf_ren0 h
theorem ren_rel0 {tt : TT} {ι : Nat → Value} {M : Mem} {id rid : Nat} {s : SV} {v : Value} (h : SVRel0 tt ι M s v) (hr : rid ∉ refs0 s) : SVRel0 tt (put ι rid (ι id)) M (renSV0 id rid s) v := by
  have hgen : SVRel0 tt (put ι rid (ι id)) M (cond (s.names id) .gone s) v := by
    cases s.names id with
    | true => trivial
    | false => exact h.updι hr
  cases s with
  | own j =>
    simp only [renSV0]
    cases hb : Nat.beq j id with
    | true =>
      have := beq_iff.1 hb
      subst this
      obtain ⟨h1, a, n, c, h2⟩ : v = ι j ∧ ∃ a n c, ι j = .slice a n c := h
      exact ⟨by rw [put_same]; exact h1, a, n, c, by rw [put_same]; exact h2⟩
    | false => exact h.updι hr
  | val k d => exact h.updι hr
  | _ => exact hgen
theorem ren_rel {tt : TT} {ι : Nat → Value} {M : Mem} {id rid : Nat} {s : SV} {v : Value} (h : SVRel tt ι M s v) (hr : rid ∉ refsOf s) : SVRel tt (put ι rid (ι id)) M (renSV id rid s) v := by
  have hgen : SVRel tt (put ι rid (ι id)) M (cond (s.names id) .gone s) v := by
    cases s.names id with
    | true => trivial
    | false => exact h.updι hr
  cases s with
  | own j => exact .of0 (ren_rel0 (s := .own j) h hr)
  | val k d => exact h.updι hr
  | sag t ks l =>
    obtain ⟨ti, vs, h1, h2, h3, h4, h5, h6, h7⟩ := h
    refine ⟨ti, vs, h1, h2, h3, h4, by rw [renCells_length]; exact h5, by rw [renCells_length]; exact h6, fun i s x hs hx => ?_⟩
    rw [renCells_get, Option.map_eq_some_iff] at hs
    obtain ⟨s0, hs0, rfl⟩ := hs
    exact ren_rel0 (h7 i s0 x hs0 hx) (fun hi => hr (mem_refsL.2 ⟨s0, List.mem_of_getElem? hs0, hi⟩))
  | _ => exact hgen
theorem ren_obj {tt : TT} {ι : Nat → Value} {M : Mem} {w : World} {id rid : Nat} {i : Nat} {o : Obj} (h : ObjRel tt ι M w i o) (hi : i ≠ rid) (hr : rid ∉ objRefs0 o) : ObjRel tt (put ι rid (ι id)) M w i (renObj id rid o) := by
  have hc := h.keep (w' := w) (x := ι id) hi hr (fun _ _ => rfl)
  cases o with
  | map _ _ => exact hc
  | arr e es => exact hc
  | box t c =>
    cases c with
    | whole d => exact hc
    | cells l =>
      obtain ⟨ti, b, cs, h1, h2, h3, h5, h6, h7⟩ := h
      refine ⟨ti, b, cs, h1, by rw [put_other _ _ _ hi]; exact h2, h3, h5, by rw [renCells_length]; exact h6, fun j s c hs hcj => ?_⟩
      rw [renCells_get, Option.map_eq_some_iff] at hs
      obtain ⟨s0, hs0, rfl⟩ := hs
      exact ren_rel0 (h7 j s0 c hs0 hcj) (fun hi => hr (mem_refsL.2 ⟨s0, List.mem_of_getElem? hs0, hi⟩))

/-- A row under another name. -/
theorem ren_sound {st : St} {a : Act} {w : World} (h : SI E X w0 Mx pv st a w) {id rid : Nat} {e : TypeId} {es : List D} (ho : st.objs id = some (.arr e es)) (hf : st.objs rid = none) : SI E X w0 Mx pv (st.ren id rid e es) a w := by
  obtain ⟨⟨ι, M, H, hs⟩, hwf, hsz, hdf, hpin⟩ := h
  have hne : rid ≠ id := fun e => by rw [e, ho] at hf; cases hf
  have hslot : ∀ t s, st.slots t = some s → rid ∉ refsOf s := fun t s ht hi => by
    obtain ⟨o, h1⟩ := hwf.slots t s ht rid hi
    rw [hf] at h1; cases h1
  have hcell : ∀ j o, st.objs j = some o → rid ∉ objRefs0 o := fun j o hj hi => by
    obtain ⟨o', h1⟩ := hwf.cells j o hj rid hi
    rw [hf] at h1; cases h1
  have hobj : ∀ i o', (st.ren id rid e es).objs i = some o' → (i = rid ∧ o' = .arr e es) ∨ (i ≠ rid ∧ i ≠ id ∧ ∃ o, st.objs i = some o ∧ o' = renObj id rid o) := by
    intro i o' h
    simp only [St.ren] at h
    by_cases hi : i = rid
    · subst hi; rw [put_same] at h; injection h with h; exact .inl ⟨rfl, h.symm⟩
    · rw [put_other _ _ _ hi] at h
      by_cases hj : i = id
      · subst hj; rw [put_same] at h; cases h
      · rw [put_other _ _ _ hj] at h
        cases hob : st.objs i with
        | none => rw [hob] at h; cases h
        | some o => rw [hob] at h; injection h with h; exact .inr ⟨hi, hj, o, rfl, h.symm⟩
  have hin : ∀ i, (i = rid ∨ (i ≠ id ∧ ∃ o, st.objs i = some o)) → ∃ o', (st.ren id rid e es).objs i = some o' := by
    intro i hi
    simp only [St.ren]
    by_cases he : i = rid
    · subst he; rw [put_same]; exact ⟨_, rfl⟩
    · rw [put_other _ _ _ he]
      rcases hi with hi | ⟨h1, o, h2⟩
      · exact absurd hi he
      · rw [put_other _ _ _ h1, h2]; exact ⟨_, rfl⟩
  have hb : ∀ i o' b, (st.ren id rid e es).objs i = some o' → blockOf (put ι rid (ι id) i) = some b → ∃ j o, st.objs j = some o ∧ blockOf (ι j) = some b ∧ (i = rid → j = id) ∧ (i ≠ rid → j = i ∧ i ≠ id) := by
    intro i o' b h hb
    rcases hobj i o' h with ⟨rfl, rfl⟩ | ⟨h1, h2, o, h3, _⟩
    · rw [put_same] at hb; exact ⟨id, _, ho, hb, fun _ => rfl, fun h => absurd rfl h⟩
    · rw [put_other _ _ _ h1] at hb; exact ⟨i, o, h3, hb, fun h => absurd h h1, fun _ => ⟨rfl, h2⟩⟩
  refine ⟨⟨put ι rid (ι id), M, ⟨?_, ?_, ?_, H.mem, H.memx, H.memB, H.os, H.tape, H.output, H.size, H.keep⟩, ?_⟩, ⟨?_, ?_⟩, hsz, hdf, hpin⟩
  · intro i o' h
    rcases hobj i o' h with ⟨rfl, rfl⟩ | ⟨h1, h2, o, h3, rfl⟩
    · obtain ⟨ei, g1, g2, g3⟩ := H.obj id _ ho
      exact ⟨ei, g1, g2, by rw [put_same]; exact g3⟩
    · exact ren_obj (H.obj i o h3) h1 (hcell i o h3)
  · intro i j oi oj b hi hj hij hbi hbj
    obtain ⟨i', o1, h1, h2, h3, h4⟩ := hb i oi b hi hbi
    obtain ⟨j', o2, g1, g2, g3, g4⟩ := hb j oj b hj hbj
    refine H.disj i' j' o1 o2 b h1 g1 (fun e => ?_) h2 g2
    by_cases hi' : i = rid
    · by_cases hj' : j = rid
      · exact hij (hi'.trans hj'.symm)
      · have := g4 hj'; have := h3 hi'; omega
    · by_cases hj' : j = rid
      · have := h4 hi'; have := g3 hj'; omega
      · have := h4 hi'; have := g4 hj'; omega
  · intro i o' b h hbi
    obtain ⟨j, o, h1, h2, _⟩ := hb i o' b h hbi
    exact H.own j o b h1 h2
  · intro t s ht
    simp only [St.ren] at ht
    cases hst : st.slots t with
    | none => rw [hst] at ht; cases ht
    | some s0 =>
      rw [hst] at ht; injection ht with ht; subst ht
      exact ren_rel (hs t s0 hst) (hslot t s0 hst)
  · intro t s ht i hi
    simp only [St.ren] at ht
    cases hst : st.slots t with
    | none => rw [hst] at ht; cases ht
    | some s0 =>
      rw [hst] at ht; injection ht with ht; subst ht
      rcases refs_ren hi with ⟨h1, _⟩ | ⟨h1, h2⟩
      · exact hin i (.inl h1)
      · exact hin i (.inr ⟨h2, hwf.slots t s0 hst i h1⟩)
  · intro j o' hj i hi
    rcases hobj j o' hj with ⟨rfl, rfl⟩ | ⟨h1, h2, o, h3, rfl⟩
    · cases hi
    · have : i = rid ∨ i ∈ objRefs0 o ∧ i ≠ id := by
        cases o with
        | map _ _ => cases hi
        | arr _ _ => cases hi
        | box t c =>
          cases c with
          | whole d => cases hi
          | cells l =>
            obtain ⟨s, hs1, hi⟩ := mem_refsL.1 hi
            obtain ⟨n, hn⟩ := List.mem_iff_getElem?.1 hs1
            rw [renCells_get, Option.map_eq_some_iff] at hn
            obtain ⟨s0, hs0, rfl⟩ := hn
            rcases refs0_ren hi with ⟨g1, _⟩ | ⟨g1, g2⟩
            · exact .inl g1
            · exact .inr ⟨mem_refsL.2 ⟨s0, List.mem_of_getElem? hs0, g1⟩, g2⟩
      rcases this with h | ⟨g1, g2⟩
      · exact hin i (.inl h)
      · exact hin i (.inr ⟨g2, hwf.cells j o h3 i g1⟩)

/-- A cell that holds no row: it holds an empty one. -/
theorem newRow_sound {st : St} {a : Act} {w : World} (h : SI E X w0 Mx pv st a w) {id rid c : Nat} {t e : TypeId} {ei : TI} {l : List SV} (ho : st.objs id = some (.box t (.cells l))) (hc : l[c]? = some .nil) (hei : lk e E.tt = some ei) (hpos : 0 < ei.cells.length) (hf : st.objs rid = none) :
    SI E X w0 Mx pv { st with objs := put (put st.objs id (some (.box t (.cells (l.set c (.own rid)))))) rid (some (.arr e [])) } a w := by
  obtain ⟨⟨ι, M, H, hs⟩, hwf, hsz, hdf, hpin⟩ := h
  have hne : rid ≠ id := fun e => by rw [e, ho] at hf; cases hf
  have hslot : ∀ t s, st.slots t = some s → rid ∉ refsOf s := fun t s ht hi => by
    obtain ⟨o, h1⟩ := hwf.slots t s ht rid hi
    rw [hf] at h1; cases h1
  have hcell : ∀ j o, st.objs j = some o → rid ∉ objRefs0 o := fun j o hj hi => by
    obtain ⟨o', h1⟩ := hwf.cells j o hj rid hi
    rw [hf] at h1; cases h1
  have hobj : ∀ i o', put (put st.objs id (some (.box t (.cells (l.set c (.own rid)))))) rid (some (.arr e [])) i = some o' → (i = rid ∧ o' = .arr e []) ∨ (i = id ∧ o' = .box t (.cells (l.set c (.own rid)))) ∨ (i ≠ rid ∧ i ≠ id ∧ st.objs i = some o') := by
    intro i o' h
    by_cases hi : i = rid
    · subst hi; rw [put_same] at h; injection h with h; exact .inl ⟨rfl, h.symm⟩
    · rw [put_other _ _ _ hi] at h
      by_cases hj : i = id
      · subst hj; rw [put_same] at h; injection h with h; exact .inr (.inl ⟨rfl, h.symm⟩)
      · rw [put_other _ _ _ hj] at h; exact .inr (.inr ⟨hi, hj, h⟩)
  have hin : ∀ i, (∃ o, st.objs i = some o) ∨ i = rid → ∃ o', put (put st.objs id (some (.box t (.cells (l.set c (.own rid)))))) rid (some (.arr e [])) i = some o' := by
    intro i hi
    by_cases he : i = rid
    · subst he; rw [put_same]; exact ⟨_, rfl⟩
    · rw [put_other _ _ _ he]
      by_cases hj : i = id
      · subst hj; rw [put_same]; exact ⟨_, rfl⟩
      · rw [put_other _ _ _ hj]
        rcases hi with hi | hi
        · exact hi
        · exact absurd hi he
  have hb : ∀ i o' b, put (put st.objs id (some (.box t (.cells (l.set c (.own rid)))))) rid (some (.arr e [])) i = some o' → blockOf (put ι rid (.slice none 0 0) i) = some b → i ≠ rid ∧ ∃ o, st.objs i = some o ∧ blockOf (ι i) = some b := by
    intro i o' b h hb
    rcases hobj i o' h with ⟨rfl, rfl⟩ | ⟨rfl, rfl⟩ | ⟨h1, h2, h3⟩
    · rw [put_same] at hb; cases hb
    · rw [put_other _ _ _ (fun e => hne e.symm)] at hb; exact ⟨fun e => hne e.symm, _, ho, hb⟩
    · rw [put_other _ _ _ h1] at hb; exact ⟨h1, _, h3, hb⟩
  refine ⟨⟨put ι rid (.slice none 0 0), M, ⟨?_, ?_, ?_, H.mem, H.memx, H.memB, H.os, H.tape, H.output, H.size, H.keep⟩, ?_⟩, ⟨?_, ?_⟩, hsz, hdf, hpin⟩
  · intro i o' h
    rcases hobj i o' h with ⟨rfl, rfl⟩ | ⟨rfl, rfl⟩ | ⟨h1, h2, h3⟩
    · exact ⟨ei, hei, hpos, .inl ⟨put_same _ _ _, rfl⟩⟩
    · obtain ⟨ti, b, cs, h1, h2, h3, h5, h6, h7⟩ := H.obj i _ ho
      refine ⟨ti, b, cs, h1, by rw [put_other _ _ _ (fun e => hne e.symm)]; exact h2, h3, h5, by rw [List.length_set]; exact h6, fun j s u hj hu => ?_⟩
      by_cases hjc : j = c
      · subst hjc
        have hlt := (List.getElem?_eq_some_iff.1 hc).1
        rw [List.getElem?_set_self hlt] at hj
        injection hj with hj; subst hj
        have hv : u = .slice none 0 0 := h7 j .nil u hc hu
        exact ⟨by rw [put_same]; exact hv, none, 0, 0, put_same _ _ _⟩
      · rw [List.getElem?_set_ne (fun e => hjc e.symm)] at hj
        exact (h7 j s u hj hu).updι (fun hi => hcell i _ ho (mem_refsL.2 ⟨s, List.mem_of_getElem? hj, hi⟩))
    · exact (H.obj i o' h3).keep h1 (hcell i o' h3) (fun _ _ => rfl)
  · intro i j oi oj b hi hj hij hbi hbj
    obtain ⟨_, o1, h1, h2⟩ := hb i oi b hi hbi
    obtain ⟨_, o2, g1, g2⟩ := hb j oj b hj hbj
    exact H.disj i j o1 o2 b h1 g1 hij h2 g2
  · intro i o' b h hbi
    obtain ⟨_, o, h1, h2⟩ := hb i o' b h hbi
    exact H.own i o b h1 h2
  · intro t' s ht
    exact (hs t' s ht).updι (hslot t' s ht)
  · intro t' s ht i hi
    exact hin i (.inl (hwf.slots t' s ht i hi))
  · intro j o' hj i hi
    rcases hobj j o' hj with ⟨rfl, rfl⟩ | ⟨rfl, rfl⟩ | ⟨h1, h2, h3⟩
    · cases hi
    · obtain ⟨s, hs1, hi⟩ := mem_refsL.1 hi
      rcases List.mem_or_eq_of_mem_set hs1 with hs1 | rfl
      · exact hin i (.inl (hwf.cells j _ ho i (mem_refsL.2 ⟨s, hs1, hi⟩)))
      · simp only [refs0, List.mem_singleton] at hi
        exact hin i (.inr hi)
    · exact hin i (.inl (hwf.cells j o' h3 i hi))

theorem rowCell_sound {st st' : St} {a : Act} {w : World} (h : SI E X w0 Mx pv st a w) {x : Nat × Nat × TypeId} (hf : rowCell E.tt st x = some st') : SI E X w0 Mx pv st' a w := by
  obtain ⟨id, c, e⟩ := x
  replace hf : rowCell1 E.tt st id c e = some st' := hf
  unfold rowCell1 at hf
  split at hf
  · rename_i t l ho
    split at hf
    · rename_i hc
      split at hf
      · rename_i ei hei
        replace hf := cond_some.1 hf
        obtain ⟨h1, hf⟩ := hf
        simp only [Bool.and_eq_true] at h1
        injection hf with hf; subst hf
        have hfr : st.objs (cellRow id c) = none := by
          have := h1.2
          unfold fresh at this
          cases hx : st.objs (cellRow id c) with
          | none => rfl
          | some o => rw [hx] at this; cases this
        exact newRow_sound h ho hc hei (Nat.le_of_ble_eq_true h1.1) hfr
      · cases hf
    · rename_i i hc
      cases hb : Nat.beq i (cellRow id c) with
      | true => rw [hb] at hf; injection hf with hf; subst hf; exact h
      | false =>
        rw [hb] at hf
        simp only [cond_false] at hf
        split at hf
        · rename_i e' es hi
          replace hf := cond_some.1 hf
          obtain ⟨h1, hf⟩ := hf
          injection hf with hf; subst hf
          have hfr : st.objs (cellRow id c) = none := by
            unfold fresh at h1
            cases hx : st.objs (cellRow id c) with
            | none => rfl
            | some o => rw [hx] at h1; cases h1
          exact ren_sound h hi hfr
        · cases hf
    · cases hf
  · injection hf with hf; subst hf; exact h
theorem rowCells_sound {a : Act} {w : World} : ∀ (l : List (Nat × Nat × TypeId)) (st st' : St), SI E X w0 Mx pv st a w → rowCells E.tt l st = some st' → SI E X w0 Mx pv st' a w := by
  intro l
  induction l with
  | nil => intro st st' h hf; injection hf with hf; subst hf; exact h
  | cons x r ih =>
    intro st st' h hf
    obtain ⟨st1, h1, hf⟩ := opt_some.1 hf
    exact ih st1 st' (rowCell_sound h h1) hf
end
end Go.Proofs.YthbncndefigidaaDoor.DS
