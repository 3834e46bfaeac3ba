/- Code in memory; runs. -/
import Derived.Test.YtjofkhdnidjleabDoorDtB
import Derived.LoopN
set_option linter.unusedVariables false
set_option linter.unusedSimpArgs false
namespace Go.Proofs.YtjofkhdnidjleabDoor.DS

section
variable {P : Program} {E : Env} {X : Nat → Prop} {w0 : World} {Mx : Mem} {pv : Nat → Option Value} {callk : Nat → List D → R}

def exitOf : Ex → Exit
  | .normal => .normal
  | .exit i => .exit i
  | .ret => .ret

def ExecOK (P : Program) (E : Env) (X : Nat → Prop) (w0 : World) (Mx : Mem) (pv : Nat → Option Value) (ex : St → (Ex → St → R) → R) (c : Code) : Prop :=
  ∀ (Q : Exit → Act → World → Prop) (K : Ex → St → R) (r : List D) st a w, SI E X w0 Mx pv st a w → ex st K = some r → (∀ e st' a' w', SI E X w0 Mx pv st' a' w' → K e st' = some r → Q (exitOf e) a' w') → c.wp P Q a w

theorem ev_si {st : St} {a : Act} {ι : Nat → Value} {M : Mem} (hs : ∀ t s, st.slots t = some s → SVRel E.tt ι M s (a.eval (.tmp t))) {x : Operand} {s : SV} (h : ev st [] [] x = some s) : SVRel E.tt ι M s (a.eval x) := by
  cases x with
  | tmp t =>
    unfold ev at h
    exact hs t s (cond_some.1 h).2
  | const v => exact .of0 (const_rel h)
  | _ => cases h

theorem iter_sound {nrm : St → Option St} {body : St → (Ex → St → R) → R} {c : Code} (hn : ∀ st st' a w, SI E X w0 Mx pv st a w → nrm st = some st' → SI E X w0 Mx pv st' a w) (hb : ExecOK P E X w0 Mx pv body c) {Q : Exit → Act → World → Prop} {K : Ex → St → R} {r : List D}
    (hQ : ∀ e st' a' w', SI E X w0 Mx pv st' a' w' → K e st' = some r → e ≠ .normal → Q (exitOf e) a' w') : ∀ n st a w, SI E X w0 Mx pv st a w → iterK nrm body n st K = some r → Code.rounds P c Q n a w := by
  intro n
  induction n with
  | zero => intro st a w _ h; cases h
  | succ n ih =>
    intro st a w h hk
    simp only [iterK] at hk
    rw [rounds_succ]
    refine hb _ _ r st a w h hk ?_
    intro e st' a' w' h' hk'
    cases e with
    | normal =>
      obtain ⟨st2, h2, hk'⟩ := opt_some.1 hk'
      exact ih st2 a' w' (hn st' st2 a' w' h' h2) hk'
    | exit i => exact hQ (.exit i) st' a' w' h' hk' (by intro e; cases e)
    | ret => exact hQ .ret st' a' w' h' hk' (by intro e; cases e)

theorem exec_sound (hm : P.follows .mixedOrders = true) (hT : TTok P E.tt) {W0 : World} (hS : Same W0 w0) (hX : ∀ b, X b → W0.heap.size ≤ b) (hcall : CallOK P E W0 callk) {an : List (Nat × Norm)} {n : Nat} {pins : List Nat} (hpv : ∀ p v, pv p = some v → p ∈ pins) : ∀ c : Code, okCode c = true → noDst pins c = true → ExecOK P E X w0 Mx pv (execK E callk an n c) c := by
  intro c
  induction c with
  | skip => intro _ _ Q K r st a w h hk hQ; exact wp_skip (hQ .normal st a w h hk)
  | region id ops draw =>
    intro hok hnd Q K r st a w h hk hQ
    refine region_sound hm hT hS hX hcall hok (fun i o hi t ht => ?_) (fun st' a' w' h' hk' => hQ .normal _ a' w' h' hk') h hk
    cases hp : pv t with
    | none => rfl
    | some v => exact absurd (hpv t v hp) (noDstL_spec hnd i o hi t ht)
  | seq x y ihx ihy =>
    intro hok hnd Q K r st a w h hk hQ
    simp only [okCode, Bool.and_eq_true] at hok
    simp only [noDst, Bool.and_eq_true] at hnd
    simp only [execK] at hk
    refine wp_seq (ihx hok.1 hnd.1 _ _ r st a w h hk ?_)
    intro e st' a' w' h' hk'
    cases e with
    | normal =>
      obtain ⟨st2, h2, hk'⟩ := opt_some.1 hk'
      exact ihy hok.2 hnd.2 Q K r st2 a' w' (normAt_sound h' h2) hk' hQ
    | exit i => exact hQ (.exit i) st' a' w' h' hk'
    | ret => exact hQ .ret st' a' w' h' hk'
  | cond x y z ihy ihz =>
    intro hok hnd Q K r st a w h hk hQ
    simp only [okCode, Bool.and_eq_true] at hok
    simp only [noDst, Bool.and_eq_true] at hnd
    simp only [execK] at hk
    split at hk
    · rename_i d hd
      have hc : a.eval x = .bool d.toBool := by
        obtain ⟨ι, M, H, hs⟩ := h.ex
        exact (Rep.inv_bool (ev_si hs hd)).1
      refine wp_cond hc ?_
      cases hb : d.toBool with
      | true =>
        rw [hb] at hk
        obtain ⟨st2, h2, hk⟩ := opt_some.1 hk
        exact ihy hok.1 hnd.1 Q K r st2 a w (normAt_sound h h2) hk hQ
      | false =>
        rw [hb] at hk
        obtain ⟨st2, h2, hk⟩ := opt_some.1 hk
        exact ihz hok.2 hnd.2 Q K r st2 a w (normAt_sound h h2) hk hQ
    · cases hk
  | block id x ih =>
    intro hok hnd Q K r st a w h hk hQ
    simp only [okCode] at hok
    simp only [noDst] at hnd
    simp only [execK] at hk
    refine wp_block (ih hok hnd _ _ r st a w h hk ?_)
    intro e st' a' w' h' hk'
    cases e with
    | normal => exact hQ .normal st' a' w' h' hk'
    | exit i =>
      simp only [exitOf, Exit.inBlock]
      simp only at hk'
      cases hb : Nat.beq i id with
      | true =>
        rw [hb] at hk'
        rw [if_pos (beq_iff.1 hb)]
        exact hQ .normal st' a' w' h' hk'
      | false =>
        rw [hb] at hk'
        rw [if_neg (beq_false.1 hb)]
        exact hQ (.exit i) st' a' w' h' hk'
    | ret => exact hQ .ret st' a' w' h' hk'
  | loop x ih =>
    intro hok hnd Q K r st a w h hk hQ
    simp only [okCode] at hok
    simp only [noDst] at hnd
    simp only [execK] at hk
    obtain ⟨st1, h1, hk⟩ := opt_some.1 hk
    replace h := normAt_sound h h1
    exact wp_loop_rounds n (iter_sound (fun st st' a w h h' => normAt_sound h h') (ih hok hnd) (fun e st' a' w' h' hk' _ => hQ e st' a' w' h' hk') n st1 a w h hk)
  | exit i => intro _ _ Q K r st a w h hk hQ; exact wp_exit (hQ (.exit i) st a w h hk)
  | ret => intro _ _ Q K r st a w h hk hQ; exact wp_ret (hQ .ret st a w h hk)
  | _ => intro _ _ Q K r st a w h hk hQ; cases hk

/-! ### Runs -/
structure FnOK (P : Program) (E : Env) (f : Nat) (fn : Func) : Prop where
  get : P.funcs[f]? = some fn
  name : (fn.name == "runtime.NumGoroutine") = false
  code : ∀ c, fn.body = some c → okCode c = true
  size : ∀ sg, lk f E.sigs = some sg → sg.params.length ≤ fn.ntmps
  pins : ∀ sg, lk f E.sigs = some sg → ∀ c, fn.body = some c → noDst (boxPs sg.params 0) c = true

/-- What is handed back: its number, what it is, its handle, where it came from. -/
structure Tr where
  id : Nat
  o : Obj
  v : Value
  src : Option Nat
def osT (T : List Tr) : List (Nat × Obj) := T.map fun x => (x.id, x.o)
def valT : List Tr → Nat → Value
  | [], _ => undef
  | x :: r, id => if x.id = id then x.v else valT r id
theorem osT_append (T U : List Tr) : osT (T ++ U) = osT T ++ osT U := by simp [osT]
theorem keysT (T : List Tr) : keysN (osT T) = T.map (·.id) := by
  induction T with
  | nil => rfl
  | cons x r ih => simp only [osT, List.map_cons, keysN] at ih ⊢; rw [ih]
theorem lk_osT {T : List Tr} {id : Nat} {o : Obj} (h : lk id (osT T) = some o) : ∃ x ∈ T, x.id = id ∧ x.o = o ∧ valT T id = x.v := by
  induction T with
  | nil => cases h
  | cons x r ih =>
    simp only [osT, List.map_cons, lk] at h
    cases hb : Nat.beq id x.id with
    | true =>
      rw [hb] at h; injection h with h
      have := beq_iff.1 hb
      exact ⟨x, List.mem_cons_self, this.symm, h, by simp [valT, this]⟩
    | false =>
      rw [hb] at h
      obtain ⟨y, h1, h2, h3, h4⟩ := ih h
      exact ⟨y, List.mem_cons_of_mem _ h1, h2, h3, by simp only [valT]; rw [if_neg (fun e => beq_false.1 hb e.symm)]; exact h4⟩
theorem valT_mem {T : List Tr} (hn : (T.map (·.id)).Nodup) {x : Tr} (hx : x ∈ T) : valT T x.id = x.v ∧ lk x.id (osT T) = some x.o := by
  induction T with
  | nil => cases hx
  | cons y r ih =>
    simp only [List.map_cons, List.nodup_cons] at hn
    simp only [valT, osT, List.map_cons, lk]
    rcases List.mem_cons.1 hx with rfl | hx
    · simp [beq_self]
    · have hne : y.id ≠ x.id := fun e => hn.1 (by rw [e]; exact List.mem_map_of_mem hx)
      obtain ⟨h1, h2⟩ := ih hn.2 hx
      rw [if_neg hne, beq_false.2 (fun e => hne e.symm)]
      exact ⟨h1, h2⟩

structure SrcOK (ι : Nat → Value) (objs objs' : Nat → Option Obj) (T : List Tr) : Prop where
  sub : ∀ id o, objs' id = some o → objs id = some o
  src : ∀ x ∈ T, (x.src = none ∧ x.v = .slice none 0 0) ∨ ∃ j o0, x.src = some j ∧ objs j = some o0 ∧ objs' j = none ∧ x.v = ι j
  dis : T.Pairwise fun x y => ∀ j, x.src = some j → y.src ≠ some j
theorem SrcOK.nil {ι : Nat → Value} {objs : Nat → Option Obj} : SrcOK ι objs objs [] := ⟨fun _ _ h => h, (fun x h => by cases h), .nil⟩
theorem SrcOK.app {ι : Nat → Value} {a b c : Nat → Option Obj} {T U : List Tr} (h : SrcOK ι a b T) (h' : SrcOK ι b c U) : SrcOK ι a c (T ++ U) := by
  refine ⟨fun id o ho => h.sub id o (h'.sub id o ho), fun x hx => ?_, ?_⟩
  · rcases List.mem_append.1 hx with hx | hx
    · rcases h.src x hx with q | ⟨j, o0, q1, q2, q3, q4⟩
      · exact .inl q
      · refine .inr ⟨j, o0, q1, q2, ?_, q4⟩
        cases hc : c j with
        | none => rfl
        | some o => have := h'.sub j o hc; rw [q3] at this; cases this
    · rcases h'.src x hx with q | ⟨j, o0, q1, q2, q3, q4⟩
      · exact .inl q
      · exact .inr ⟨j, o0, q1, h.sub j o0 q2, q3, q4⟩
  · refine List.pairwise_append.2 ⟨h.dis, h'.dis, fun x hx y hy j hj e => ?_⟩
    rcases h.src x hx with ⟨q, _⟩ | ⟨j1, o1, q1, q2, q3, q4⟩
    · rw [q] at hj; cases hj
    · rw [q1] at hj; injection hj with hj; subst hj
      rcases h'.src y hy with ⟨r, _⟩ | ⟨j2, o2, r1, r2, r3, r4⟩
      · rw [r] at e; cases e
      · rw [r1] at e; injection e with e; subst e
        rw [q3] at r2; cases r2
/-- One row. -/
theorem SrcOK.row {ι : Nat → Value} {objs : Nat → Option Obj} {i : Nat} {o0 : Obj} (h : objs i = some o0) (id : Nat) (o : Obj) : SrcOK ι objs (put objs i none) [⟨id, o, ι i, some i⟩] := by
  refine ⟨fun j o hj => ?_, fun x hx => ?_, List.pairwise_singleton _ _⟩
  · by_cases e : j = i
    · subst e; rw [put_same] at hj; cases hj
    · rw [put_other _ _ _ e] at hj; exact hj
  · simp at hx; subst hx
    exact .inr ⟨i, o0, rfl, h, put_same _ _ _, rfl⟩
theorem SrcOK.none {ι : Nat → Value} {objs : Nat → Option Obj} (id : Nat) (o : Obj) : SrcOK ι objs objs [⟨id, o, .slice none 0 0, none⟩] := by
  refine ⟨fun _ _ h => h, fun x hx => ?_, List.pairwise_singleton _ _⟩
  simp at hx; subst hx; exact .inl ⟨rfl, rfl⟩

def resVal (P : Program) (w : World) (tmps : Array Value) : ResultVar → Value
  | .tmp t => tmps.getD t undef
  | .cell t ty => match (do loadVar ty (← asAddr (tmps.getD t undef)) : Sem Value).run P w with
    | .ok u _ => u
    | _ => undef
def GoodRV (P : Program) (w : World) (tmps : Array Value) : ResultVar → Prop
  | .tmp _ => True
  | .cell t ty => ∃ u, (do loadVar ty (← asAddr (tmps.getD t undef)) : Sem Value).run P w = .ok u w
/-- A result that lies in a cell. -/
theorem cell_res (hT : TTok P E.tt) {ι : Nat → Value} {M : Mem} {a : Act} {w : World} {st : St} (hs : ∀ t s, st.slots t = some s → SVRel E.tt ι M s (a.eval (.tmp t))) (hobj : ∀ id o, st.objs id = some o → ObjRel E.tt ι M w id o)
    (hmem : ∀ ad v, M ad = some v → w.cell? ad = some v) {t : Nat} {ty : TypeId} {v : SV} (h : cellVal E st t ty = some v) :
    GoodRV P w a.tmps (.cell t ty) ∧ SVRel E.tt ι M v (resVal P w a.tmps (.cell t ty)) := by
  unfold cellVal at h
  split at h
  · rename_i c v' hl
    injection h with h; subst h
    have hev : ∀ x s, ev st [] [] x = some s → SVRel E.tt ι M s (a.eval x) := fun x s h => ev_si hs h
    obtain ⟨⟨u, h1, h2⟩, _⟩ := load_sound hT hev hobj hmem (o := ⟨none, .load ty (.tmp t), ty, "", #[], none⟩) rfl hl
    have hp : ∃ ad, a.eval (.tmp t) = .pointer (some ad) := by
      unfold loadO at hl
      obtain ⟨ti, _, hl⟩ := opt_some.1 hl
      obtain ⟨s, hs1, hl⟩ := opt_some.1 hl
      have hrel := hev _ _ hs1
      cases s with
      | eptr k d => obtain ⟨ad, _, _, _, e, _⟩ := hrel; exact ⟨ad, e⟩
      | bptr id u off k => obtain ⟨_, b, _, e⟩ := hrel; exact ⟨_, e⟩
      | optr id e i off k => obtain ⟨_, _, _, _, _, _, _, _, _, e⟩ := hrel; exact ⟨_, e⟩
      | _ => cases hl
    obtain ⟨ad, hp⟩ := hp
    have hrun : (loadVar ty ad).run P w = .ok u w := by
      have : (execOp a.eval ⟨none, .load ty (.tmp t), ty, "", #[], none⟩).run P w = ((do pure (Next.value (← loadVar ty ad))) : Sem Next).run P w := by
        simp [execOp, hp, Instr.loadAt, Instr.sureAddr]
      rw [this] at h1
      simp only [Sem.run_bind, Sem.run_pure] at h1
      cases hr : (loadVar ty ad).run P w with
      | ok u' w' =>
        rw [hr] at h1
        simp only [Result.andThen_ok] at h1
        injection h1 with e1 e2
        injection e1 with e1
        subst e1 e2; rfl
      | halt _ _ => rw [hr] at h1; cases h1
    have hp2 : a.tmps.getD t undef = .pointer (some ad) := hp
    have hrun2 : (do loadVar ty (← asAddr (a.tmps.getD t undef)) : Sem Value).run P w = .ok u w := by
      rw [hp2]
      simp only [asAddr, pure_bind]
      exact hrun
    refine ⟨⟨u, hrun2⟩, ?_⟩
    simp only [resVal, hrun2]
    exact h2
  · cases h
def ArrT (E : Env) (M : Mem) (w : World) (x : Tr) : Prop := ∃ e es ei, x.o = .arr e es ∧ lk e E.tt = some ei ∧ 0 < ei.cells.length ∧ ArrRel E.tt M w ei x.v es
theorem finRes_spec (hT : TTok P E.tt) {ι : Nat → Value} {M : Mem} {a : Act} {w : World} (hmem : ∀ ad v, M ad = some v → w.cell? ad = some v) (n : Nat) (slots : Nat → Option SV) (hs : ∀ t s, slots t = some s → SVRel E.tt ι M s (a.eval (.tmp t))) (base : Nat) (r : List D) :
    ∀ (vs : List ResultVar) (rs : List RM) (j : Nat) (q : List D) (objs objs' : Nat → Option Obj), (∀ id o, objs id = some o → ObjRel E.tt ι M w id o) → (∀ i, i < q.length → r.getD (j + i) .no = q.getD i .no) →
      finRes E ⟨n, slots, objs⟩ vs rs = some (q, objs') → (∀ rv ∈ vs, GoodRV P w a.tmps rv) ∧ q.length = rs.length ∧ ∀ svs os, resSV rs base j r = some (svs, os) → ∃ T, os = osT T ∧ (∀ x ∈ T, ArrT E M w x) ∧ SrcOK ι objs objs' T ∧ svs.length = vs.length ∧
        ∀ (i : Nat) (s : SV) (u : Value), svs[i]? = some s → (vs.map (resVal P w a.tmps))[i]? = some u → (∃ k d, s = .val k d ∧ Rep E.tt M k u d) ∨ (∃ x ∈ T, s = .own x.id ∧ u = x.v ∧ ∃ y n c, u = .slice y n c) ∨ s = .gone := by
  intro vs
  induction vs with
  | nil =>
    intro rs j q objs objs' hobj hq h
    cases rs with
    | nil =>
      injection h with h; injection h with h1 h2; subst h1 h2
      refine ⟨fun rv h => (by cases h), rfl, fun svs os h => ?_⟩
      injection h with h; injection h with h1 h2; subst h1 h2
      exact ⟨[], rfl, (fun x h => by cases h), .nil, rfl, fun i s u h => by simp at h⟩
    | cons _ _ => cases h
  | cons v vs ih =>
    intro rs j q objs objs' hobj hq h
    cases rs with
    | nil => cases v <;> cases h
    | cons rm rs =>
      cases v with
      | cell t ty =>
        cases rm with
        | own e => cases h
        | any => cases h
        | val k =>
          simp only [finRes] at h
          replace h := opt_some.1 h
          obtain ⟨s, hs1, h⟩ := h
          replace h := opt_some.1 h
          obtain ⟨d, hd, h⟩ := h
          replace h := opt_some.1 h
          obtain ⟨x, hx, h⟩ := h
          injection h with h; injection h with h1 h2; subst h1 h2
          have e0 : r.getD j .no = d := by have := hq 0 (by simp); simpa using this
          obtain ⟨i1, i3, i2⟩ := ih rs (j + 1) x.1 objs x.2 hobj (fun i hi => by have := hq (i + 1) (by simp; omega); rw [show j + 1 + i = j + (i + 1) by omega, this]; rfl) hx
          obtain ⟨c1, c2⟩ := cell_res (P := P) hT (st := ⟨n, slots, objs⟩) hs hobj hmem hs1
          refine ⟨fun rv hrv => ?_, by simp [i3], fun svs os hr => ?_⟩
          · rcases List.mem_cons.1 hrv with rfl | hrv
            · exact c1
            · exact i1 rv hrv
          · simp only [resSV] at hr
            obtain ⟨y, hy, hr⟩ := opt_some.1 hr
            injection hr with hr; injection hr with h1 h2; subst h1 h2
            obtain ⟨T, k1, k2, k3, k4, k5⟩ := i2 y.1 y.2 hy
            have hrep : Rep E.tt M k (resVal P w a.tmps (.cell t ty)) d := svD_rel hd c2
            refine ⟨T, k1, k2, k3, by simp [k4], fun i s' u h1 h2 => ?_⟩
            cases i with
            | zero =>
              simp only [List.getElem?_cons_zero, Option.some.injEq] at h1
              simp only [List.map_cons, List.getElem?_cons_zero, Option.some.injEq] at h2
              subst h1 h2
              exact .inl ⟨k, _, rfl, by rw [e0, hrep.canon]; exact hrep⟩
            | succ i =>
              simp only [List.getElem?_cons_succ] at h1
              simp only [List.map_cons, List.getElem?_cons_succ] at h2
              exact k5 i s' u h1 h2
      | tmp t =>
        have htmp : resVal P w a.tmps (.tmp t) = a.eval (.tmp t) := rfl
        cases rm with
        | any =>
          simp only [finRes] at h
          replace h := opt_some.1 h
          obtain ⟨x, hx, h⟩ := h
          injection h with h; injection h with h1 h2; subst h1 h2
          obtain ⟨i1, i3, i2⟩ := ih rs (j + 1) x.1 objs x.2 hobj (fun i hi => by have := hq (i + 1) (by simp; omega); rw [show j + 1 + i = j + (i + 1) by omega, this]; rfl) hx
          refine ⟨fun rv hrv => ?_, by simp [i3], fun svs os hr => ?_⟩
          · rcases List.mem_cons.1 hrv with rfl | hrv
            · exact trivial
            · exact i1 rv hrv
          · simp only [resSV] at hr
            obtain ⟨y, hy, hr⟩ := opt_some.1 hr
            injection hr with hr; injection hr with h1 h2; subst h1 h2
            obtain ⟨T, k1, k2, k3, k4, k5⟩ := i2 y.1 y.2 hy
            refine ⟨T, k1, k2, k3, by simp [k4], fun i s' u h1 h2 => ?_⟩
            cases i with
            | zero =>
              simp only [List.getElem?_cons_zero, Option.some.injEq] at h1
              exact .inr (.inr h1.symm)
            | succ i =>
              simp only [List.getElem?_cons_succ] at h1
              simp only [List.map_cons, List.getElem?_cons_succ] at h2
              exact k5 i s' u h1 h2
        | val k =>
          simp only [finRes] at h
          replace h := opt_some.1 h
          obtain ⟨s, hs1, h⟩ := h
          replace h := opt_some.1 h
          obtain ⟨d, hd, h⟩ := h
          replace h := opt_some.1 h
          obtain ⟨x, hx, h⟩ := h
          injection h with h; injection h with h1 h2; subst h1 h2
          have e0 : r.getD j .no = d := by have := hq 0 (by simp); simpa using this
          obtain ⟨i1, i3, i2⟩ := ih rs (j + 1) x.1 objs x.2 hobj (fun i hi => by have := hq (i + 1) (by simp; omega); rw [show j + 1 + i = j + (i + 1) by omega, this]; rfl) hx
          refine ⟨fun rv hrv => ?_, by simp [i3], fun svs os hr => ?_⟩
          · rcases List.mem_cons.1 hrv with rfl | hrv
            · exact trivial
            · exact i1 rv hrv
          · simp only [resSV] at hr
            obtain ⟨y, hy, hr⟩ := opt_some.1 hr
            injection hr with hr; injection hr with h1 h2; subst h1 h2
            obtain ⟨T, k1, k2, k3, k4, k5⟩ := i2 y.1 y.2 hy
            have hrep : Rep E.tt M k (a.eval (.tmp t)) d := svD_rel hd (ev_si (st := ⟨n, slots, objs⟩) hs hs1)
            refine ⟨T, k1, k2, k3, by simp [k4], fun i s' u h1 h2 => ?_⟩
            cases i with
            | zero =>
              simp only [List.getElem?_cons_zero, Option.some.injEq] at h1
              simp only [List.map_cons, List.getElem?_cons_zero, Option.some.injEq] at h2
              subst h1 h2
              exact .inl ⟨k, _, rfl, by rw [e0, hrep.canon]; exact hrep⟩
            | succ i =>
              simp only [List.getElem?_cons_succ] at h1
              simp only [List.map_cons, List.getElem?_cons_succ] at h2
              exact k5 i s' u h1 h2
        | own e =>
          simp only [finRes] at h
          replace h := opt_some.1 h
          obtain ⟨s, hs1, h⟩ := h
          have hrel := ev_si (st := ⟨n, slots, objs⟩) hs hs1
          have fin : ∀ es x objs1 src, finRes E ⟨n, slots, objs1⟩ vs rs = some x → q = .list es :: x.1 → objs' = x.2 → SrcOK ι objs objs1 [⟨base + j, .arr e es, a.eval (.tmp t), src⟩] → (∃ ei, lk e E.tt = some ei ∧ 0 < ei.cells.length ∧ ArrRel E.tt M w ei (a.eval (.tmp t)) es) → (∃ y n c, a.eval (.tmp t) = .slice y n c) →
              (∀ rv ∈ ResultVar.tmp t :: vs, GoodRV P w a.tmps rv) ∧ q.length = (RM.own e :: rs).length ∧ ∀ svs os, resSV (.own e :: rs) base j r = some (svs, os) → ∃ T, os = osT T ∧ (∀ x ∈ T, ArrT E M w x) ∧ SrcOK ι objs objs' T ∧ svs.length = (ResultVar.tmp t :: vs).length ∧
                ∀ (i : Nat) (s : SV) (u : Value), svs[i]? = some s → ((ResultVar.tmp t :: vs).map (resVal P w a.tmps))[i]? = some u → (∃ k d, s = .val k d ∧ Rep E.tt M k u d) ∨ (∃ x ∈ T, s = .own x.id ∧ u = x.v ∧ ∃ y n c, u = .slice y n c) ∨ s = .gone := by
            intro es x objs1 src hx hq0 ho hsrc harr hsl
            subst hq0 ho
            have e0 : r.getD j .no = .list es := by have := hq 0 (by simp); simpa using this
            obtain ⟨i1, i3, i2⟩ := ih rs (j + 1) x.1 objs1 x.2 (fun id o h => hobj id o (hsrc.sub id o h)) (fun i hi => by have := hq (i + 1) (by simp; omega); rw [show j + 1 + i = j + (i + 1) by omega, this]; rfl) hx
            refine ⟨fun rv hrv => ?_, by simp [i3], fun svs os hr => ?_⟩
            · rcases List.mem_cons.1 hrv with rfl | hrv
              · exact trivial
              · exact i1 rv hrv
            · simp only [resSV] at hr
              obtain ⟨y, hy, hr⟩ := opt_some.1 hr
              injection hr with hr; injection hr with h1 h2; subst h1 h2
              obtain ⟨T, k1, k2, k3, k4, k5⟩ := i2 y.1 y.2 hy
              refine ⟨⟨base + j, .arr e es, a.eval (.tmp t), src⟩ :: T, ?_, fun z hz => ?_, hsrc.app k3, by simp [k4], fun i s' u h1 h2 => ?_⟩
              · rw [e0, k1]; rfl
              · rcases List.mem_cons.1 hz with rfl | hz
                · obtain ⟨ei, g1, g2, g3⟩ := harr
                  exact ⟨e, es, ei, rfl, g1, g2, g3⟩
                · exact k2 z hz
              · cases i with
                | zero =>
                  simp only [List.getElem?_cons_zero, Option.some.injEq] at h1
                  simp only [List.map_cons, List.getElem?_cons_zero, Option.some.injEq] at h2
                  subst h1 h2
                  exact .inr (.inl ⟨_, List.mem_cons_self, rfl, htmp, hsl⟩)
                | succ i =>
                  simp only [List.getElem?_cons_succ] at h1
                  simp only [List.map_cons, List.getElem?_cons_succ] at h2
                  rcases k5 i s' u h1 h2 with g | ⟨z, g1, g2⟩ | g
                  · exact .inl g
                  · exact .inr (.inl ⟨z, List.mem_cons_of_mem _ g1, g2⟩)
                  · exact .inr (.inr g)
          cases s with
          | nil =>
            simp only at h
            cases hei : lk e E.tt with
            | none => rw [hei] at h; cases h
            | some ei =>
              rw [hei] at h
              replace h := cond_some.1 h
              obtain ⟨hle, h⟩ := h
              replace h := opt_some.1 h
              obtain ⟨x, hx, h⟩ := h
              injection h with h; injection h with h1 h2
              have hv : a.eval (.tmp t) = .slice none 0 0 := hrel
              exact fin [] x objs none hx h1.symm h2.symm (by rw [hv]; exact .none _ _) ⟨ei, hei, Nat.le_of_ble_eq_true hle, .inl ⟨hv, rfl⟩⟩ ⟨_, _, _, hv⟩
          | own i =>
            simp only at h
            cases hob : objs i with
            | none => rw [hob] at h; cases h
            | some o =>
              rw [hob] at h
              cases o with
              | box _ _ => cases h
              | arr e' es =>
                replace h := cond_some.1 h
                obtain ⟨he, h⟩ := h
                have he := beq_iff.1 he
                subst he
                replace h := opt_some.1 h
                obtain ⟨x, hx, h⟩ := h
                injection h with h; injection h with h1 h2
                obtain ⟨hv, y1, y2, y3, hy⟩ : a.eval (.tmp t) = ι i ∧ ∃ a n c, ι i = .slice a n c := hrel
                obtain ⟨ei, g1, g2, g3⟩ := hobj i _ hob
                exact fin es x _ (some i) hx h1.symm h2.symm (by rw [hv]; exact .row hob _ _) ⟨ei, g1, g2, by rw [hv]; exact g3⟩ ⟨_, _, _, hv.trans hy⟩
          | _ => cases h

/-- What a box's cells hand back. -/
def CellT (E : Env) (ι : Nat → Value) (M : Mem) (T : List Tr) (i B c : Nat) (u : Value) (d0 : D) : CK → Prop
  | .val q => Rep E.tt M q u d0
  | .row _ => ∃ x ∈ T, x.id = rowId B c ∧ x.v = u ∧ ∃ y n z, u = .slice y n z
  | .self => u = .pointer none ∨ ∃ b, ι i = .pointer (some ⟨b, 0, none⟩) ∧ u = .pointer (some ⟨b, 0, none⟩)
theorem CellT.mono {ι : Nat → Value} {M : Mem} {T U : List Tr} {i B c : Nat} {u : Value} {d0 : D} {k : CK} (h : CellT E ι M T i B c u d0 k) (hs : ∀ x ∈ T, x ∈ U) : CellT E ι M U i B c u d0 k := by
  cases k with
  | row e => obtain ⟨x, h1, h2⟩ := h; exact ⟨x, hs x h1, h2⟩
  | _ => exact h
theorem finCells_spec {ι : Nat → Value} {M : Mem} {w : World} {i B : Nat} {d : D} : ∀ (cs : List CK) (c : Nat) (ss : List SV) (objs : Nat → Option Obj) (cds : List D) (objs' : Nat → Option Obj) (cc : List Value), finCells E i cs ss objs = some (cds, objs') → cc.length = ss.length →
    (∀ id o, objs id = some o → ObjRel E.tt ι M w id o) → (∀ (j : Nat) s u, ss[j]? = some s → cc[j]? = some u → SVRel0 E.tt ι M s u) → (∀ (j : Nat) d0, cds[j]? = some d0 → d.cell (c + j) = d0) →
    cs.length = ss.length ∧ cds.length = cs.length ∧ ∃ T, osT T = rowObjs B cs c d ∧ (∀ x ∈ T, ArrT E M w x) ∧ SrcOK ι objs objs' T ∧ ∀ (j : Nat) k u d0, cs[j]? = some k → cc[j]? = some u → cds[j]? = some d0 → CellT E ι M T i B (c + j) u d0 k := by
  intro cs
  induction cs with
  | nil =>
    intro c ss objs cds objs' cc h hl hobj hr hd
    cases ss with
    | nil =>
      injection h with h; injection h with h1 h2; subst h1 h2
      exact ⟨rfl, rfl, [], rfl, (fun x h => by cases h), .nil, fun j k u d0 hk => by simp at hk⟩
    | cons _ _ => cases h
  | cons k cs ih =>
    intro c ss objs cds objs' cc h hl hobj hr hd
    cases ss with
    | nil => cases k <;> cases h
    | cons s ss =>
      cases cc with
      | nil => simp at hl
      | cons u cc =>
        have h0 := hr 0 s u rfl rfl
        have step : ∀ d0 x objs1 T0, finCells E i cs ss objs1 = some x → cds = d0 :: x.1 → objs' = x.2 → SrcOK ι objs objs1 T0 → (∀ y ∈ T0, ArrT E M w y) → osT T0 ++ rowObjs B cs (c + 1) d = rowObjs B (k :: cs) c d → CellT E ι M T0 i B c u d0 k →
            (k :: cs).length = (s :: ss).length ∧ cds.length = (k :: cs).length ∧ ∃ T, osT T = rowObjs B (k :: cs) c d ∧ (∀ x ∈ T, ArrT E M w x) ∧ SrcOK ι objs objs' T ∧ ∀ (j : Nat) k' u' d', (k :: cs)[j]? = some k' → (u :: cc)[j]? = some u' → cds[j]? = some d' → CellT E ι M T i B (c + j) u' d' k' := by
          intro d0 x objs1 T0 hx hc ho hsrc harr hos hhead
          subst hc ho
          obtain ⟨q1, q2, T, q3, q4, q5, q6⟩ := ih (c + 1) ss objs1 x.1 x.2 cc hx (by simpa using hl) (fun id o h => hobj id o (hsrc.sub id o h)) (fun j s u hs hu => hr (j + 1) s u (by simpa using hs) (by simpa using hu)) (fun j d1 hj => by rw [show c + 1 + j = c + (j + 1) by omega]; exact hd (j + 1) d1 (by simpa using hj))
          refine ⟨by simp [q1], by simp [q2], T0 ++ T, by rw [osT_append, q3, hos], fun y hy => ?_, hsrc.app q5, fun j k' u' d' h1 h2 h3 => ?_⟩
          · rcases List.mem_append.1 hy with hy | hy
            · exact harr y hy
            · exact q4 y hy
          · cases j with
            | zero =>
              simp at h1 h2 h3
              subst h1 h2 h3
              exact hhead.mono (fun x hx => List.mem_append_left _ hx)
            | succ j =>
              have := q6 j k' u' d' (by simpa using h1) (by simpa using h2) (by simpa using h3)
              rw [show c + 1 + j = c + (j + 1) by omega] at this
              exact this.mono (fun x hx => List.mem_append_right _ hx)
        cases k with
        | val q =>
          simp only [finCells] at h
          replace h := opt_some.1 h
          obtain ⟨d0, hd0, h⟩ := h
          replace h := opt_some.1 h
          obtain ⟨x, hx, h⟩ := h
          injection h with h; injection h with h1 h2
          exact step d0 x objs [] hx h1.symm h2.symm .nil (fun y h => by cases h) rfl (svD1_rel hd0 h0)
        | row e =>
          simp only [finCells] at h
          cases s with
          | nil =>
            simp only at h
            cases hei : lk e E.tt with
            | none => rw [hei] at h; cases h
            | some ei =>
              rw [hei] at h
              replace h := cond_some.1 h
              obtain ⟨hle, h⟩ := h
              replace h := opt_some.1 h
              obtain ⟨x, hx, h⟩ := h
              injection h with h; injection h with h1 h2
              have hv : u = .slice none 0 0 := h0
              have e0 : d.cell c = .list [] := by have := hd 0 (.list []) (by rw [← h1]; rfl); simpa using this
              exact step (.list []) x objs [⟨rowId B c, .arr e [], .slice none 0 0, none⟩] hx h1.symm h2.symm (.none _ _) (fun y hy => by simp at hy; subst hy; exact ⟨e, [], ei, rfl, hei, Nat.le_of_ble_eq_true hle, .inl ⟨rfl, rfl⟩⟩) (by simp only [rowObjs, osT, List.map_cons, List.map_nil, e0]; rfl) ⟨⟨rowId B c, .arr e [], .slice none 0 0, none⟩, List.mem_singleton.2 rfl, rfl, hv.symm, ⟨_, _, _, hv⟩⟩
          | own i0 =>
            simp only at h
            cases hob : objs i0 with
            | none => rw [hob] at h; cases h
            | some o =>
              rw [hob] at h
              cases o with
              | box _ _ => cases h
              | arr e' es =>
                replace h := cond_some.1 h
                obtain ⟨he, h⟩ := h
                have he := beq_iff.1 he
                subst he
                replace h := opt_some.1 h
                obtain ⟨x, hx, h⟩ := h
                injection h with h; injection h with h1 h2
                obtain ⟨hv, y1, y2, y3, hy⟩ := h0
                obtain ⟨ei, g1, g2, g3⟩ := hobj i0 _ hob
                have e0 : d.cell c = .list es := by have := hd 0 (.list es) (by rw [← h1]; rfl); simpa using this
                exact step (.list es) x _ [⟨rowId B c, .arr e es, ι i0, some i0⟩] hx h1.symm h2.symm (.row hob _ _) (fun y hy => by simp at hy; subst hy; exact ⟨e, es, ei, rfl, g1, g2, g3⟩) (by simp only [rowObjs, osT, List.map_cons, List.map_nil, e0]; rfl) ⟨⟨rowId B c, .arr e es, ι i0, some i0⟩, List.mem_singleton.2 rfl, rfl, hv.symm, ⟨_, _, _, hv.trans hy⟩⟩
          | _ => cases h
        | self =>
          simp only [finCells] at h
          cases s with
          | selfn i0 =>
            simp only at h
            replace h := cond_some.1 h
            obtain ⟨he, h⟩ := h
            have he := beq_iff.1 he
            subst he
            replace h := opt_some.1 h
            obtain ⟨x, hx, h⟩ := h
            injection h with h; injection h with h1 h2
            exact step .no x objs [] hx h1.symm h2.symm .nil (fun y h => by cases h) rfl h0
          | _ => cases h

/-- A thing that is handed back, in memory. -/
def TrOK (E : Env) (ι : Nat → Value) (M : Mem) (w : World) (T : List Tr) (x : Tr) : Prop :=
  ArrT E M w x ∨ ∃ t cs d ti b cc i, x.o = .box t (.cells (mkCells x.id cs 0 d)) ∧ lk t E.tt = some ti ∧ x.v = .pointer (some ⟨b, 0, none⟩) ∧ x.v = ι i ∧ w.heap[b]? = some (.cells cc t (0, 0)) ∧ cc.size = ti.cells.length ∧ cs.length = ti.cells.length ∧
    ∀ (j : Nat) k u, cs[j]? = some k → cc.toList[j]? = some u → CellT E ι M T i x.id (0 + j) u (d.cell (0 + j)) k
theorem TrOK.mono {ι : Nat → Value} {M : Mem} {w : World} {T U : List Tr} {x : Tr} (h : TrOK E ι M w T x) (hs : ∀ x ∈ T, x ∈ U) : TrOK E ι M w U x := by
  rcases h with h | ⟨t, cs, d, ti, b, cc, i, h1, h2, h3, h4, h5, h6, h7, h8⟩
  · exact .inl h
  · exact .inr ⟨t, cs, d, ti, b, cc, i, h1, h2, h3, h4, h5, h6, h7, fun j k u hk hu => (h8 j k u hk hu).mono hs⟩
theorem finBoxes_spec (hT : TTok P E.tt) {ι : Nat → Value} {M : Mem} {w : World} {slots : Nat → Option SV} (bid : Nat → Nat) (ds : List D) : ∀ (ps : List PM) (i n : Nat) (objs : Nat → Option Obj) (r : List D), finBoxes E slots ps i objs = some r →
    (∀ id o, objs id = some o → ObjRel E.tt ι M w id o) → (∀ j, j < r.length → ds.getD (n + j) .no = r.getD j .no) →
    ∃ T objs', boxObjs (boxesP bid i ps) n ds = osT T ∧ SrcOK ι objs objs' T ∧ (∀ x ∈ T, TrOK E ι M w T x) ∧ ∀ (q : Nat) t cs, ps[q]? = some (.box t cs) → (∃ x ∈ T, x.id = bid (i + q) ∧ x.v = ι (i + q)) ∧ isPar (i + q) (slots (i + q)) = true ∧ ∃ b, ι (i + q) = .pointer (some ⟨b, 0, none⟩) := by
  intro ps
  induction ps with
  | nil =>
    intro i n objs r h _ _
    exact ⟨[], objs, rfl, .nil, (fun x h => by cases h), fun q t cs h => by simp at h⟩
  | cons p ps ih =>
    intro i n objs r h hobj hd
    have skip : finBoxes E slots ps (i + 1) objs = some r → boxesP bid i (p :: ps) = boxesP bid (i + 1) ps → (∀ t cs, p ≠ .box t cs) →
        ∃ T objs', boxObjs (boxesP bid i (p :: ps)) n ds = osT T ∧ SrcOK ι objs objs' T ∧ (∀ x ∈ T, TrOK E ι M w T x) ∧ ∀ (q : Nat) t cs, (p :: ps)[q]? = some (.box t cs) → (∃ x ∈ T, x.id = bid (i + q) ∧ x.v = ι (i + q)) ∧ isPar (i + q) (slots (i + q)) = true ∧ ∃ b, ι (i + q) = .pointer (some ⟨b, 0, none⟩) := by
      intro h he hp
      obtain ⟨T, objs', h1, h2, h3, h4⟩ := ih (i + 1) n objs r h hobj hd
      refine ⟨T, objs', by rw [he]; exact h1, h2, h3, fun q t cs hq => ?_⟩
      cases q with
      | zero => simp at hq; exact absurd hq (hp t cs)
      | succ q =>
        have := h4 q t cs (by simpa using hq)
        rw [show i + 1 + q = i + (q + 1) by omega] at this
        exact this
    cases p with
    | box t cs =>
      simp only [finBoxes] at h
      cases hob : objs i with
      | none => rw [hob] at h; cases h
      | some o =>
        rw [hob] at h
        cases o with
        | arr _ _ => cases h
        | box u c =>
          replace h := cond_some.1 h
          obtain ⟨hc, h⟩ := h
          simp only [Bool.and_eq_true] at hc
          obtain ⟨hu, hpar⟩ := hc
          have hu := beq_iff.1 hu
          subst hu
          replace h := opt_some.1 h
          obtain ⟨ti, hti, h⟩ := h
          replace h := opt_some.1 h
          obtain ⟨x, hx, h⟩ := h
          replace h := opt_some.1 h
          obtain ⟨r', hr', h⟩ := h
          injection h with h
          subst h
          have e0 : ds.getD n .no = .agg x.1 := by have := hd 0 (by simp); simpa using this
          obtain ⟨ti', b, cc, g1, g2, g3, g4⟩ := hobj i _ hob
          rw [hti] at g1; injection g1 with g1; subst g1
          obtain ⟨k1, k2, k3⟩ := toCells_rel hT hti g4
          have hsub : ∀ id o, put objs i none id = some o → objs id = some o := fun id o ho => by
            by_cases e : id = i
            · subst e; rw [put_same] at ho; cases ho
            · rw [put_other _ _ _ e] at ho; exact ho
          obtain ⟨f1, f2, T1, f3, f4, f5, f6⟩ := finCells_spec (w := w) (i := i) (B := bid i) (d := .agg x.1) cs 0 (c.toCells ti) (put objs i none) x.1 x.2 cc.toList hx (by rw [k2, Array.length_toList, k1]) (fun id o ho => hobj id o (hsub id o ho)) (fun j s u hs hu => k3 j s u hs (by simpa using hu)) (fun j d0 hj => by
            rw [Nat.zero_add]; show x.1.getD j .no = d0; rw [List.getD_eq_getElem?_getD, hj]; rfl)
          obtain ⟨T2, objs', h1, h2, h3, h4⟩ := ih (i + 1) (n + 1) x.2 r' hr' (fun id o ho => hobj id o (hsub id o (f5.sub id o ho))) (fun j hj => by have := hd (j + 1) (by simp; omega); rw [show n + 1 + j = n + (j + 1) by omega, this]; rfl)
          refine ⟨⟨bid i, .box u (.cells (mkCells (bid i) cs 0 (.agg x.1))), ι i, some i⟩ :: (T1 ++ T2), objs', ?_, (SrcOK.row hob _ _).app (f5.app h2), ?_, ?_⟩
          · simp only [boxesP, boxObjs, e0, f3.symm, h1]
            rw [← osT_append]; rfl
          · intro y hy
            rcases List.mem_cons.1 hy with rfl | hy
            · refine .inr ⟨u, cs, .agg x.1, ti, b, cc, i, rfl, hti, g2, rfl, g3, k1, by rw [f1, k2], fun j k v hk hv => ?_⟩
              have hlt : j < x.1.length := by rw [f2]; exact (List.getElem?_eq_some_iff.1 hk).1
              have := f6 j k v x.1[j] hk hv (List.getElem?_eq_getElem hlt)
              have e1 : (D.agg x.1).cell (0 + j) = x.1[j] := by
                rw [Nat.zero_add]; show x.1.getD j .no = x.1[j]; rw [List.getD_eq_getElem?_getD, List.getElem?_eq_getElem hlt]; rfl
              rw [e1]
              exact this.mono fun z hz => List.mem_cons_of_mem _ (List.mem_append_left _ hz)
            · rcases List.mem_append.1 hy with hy | hy
              · exact .inl (f4 y hy)
              · exact (h3 y hy).mono fun z hz => List.mem_cons_of_mem _ (List.mem_append_right _ hz)
          · intro q t' cs' hq
            cases q with
            | zero => exact ⟨⟨_, List.mem_cons_self, rfl, rfl⟩, hpar, b, g2⟩
            | succ q =>
              obtain ⟨⟨y, y1, y2, y3⟩, q2, q3⟩ := h4 q t' cs' (by simpa using hq)
              rw [show i + 1 + q = i + (q + 1) by omega] at y2 y3 q2 q3
              exact ⟨⟨y, List.mem_cons_of_mem _ (List.mem_append_right _ y1), y2, y3⟩, q2, q3⟩
    | val k => exact skip h rfl (fun _ _ e => by cases e)
    | own e => exact skip h rfl (fun _ _ e => by cases e)
    | ref k => exact skip h rfl (fun _ _ e => by cases e)

end
end Go.Proofs.YtjofkhdnidjleabDoor.DS
