/- The data-level semantics: plain data, an interpreter of the program over them, and its soundness; part 7. -/
import Derived.Test.YtcmeincdmphaoaaDoorF6
import Derived.LoopN
import Derived.Carry
import Derived.ChangeShapes
import GoSem.ClaimChange
import Derived.ProofKit
set_option linter.unusedVariables false
set_option linter.unusedSimpArgs false
namespace Go.Proofs.YtcmeincdmphaoaaDoor.DS

section
variable {P : Program} {E : Env} {X : Nat → Prop} {w0 : World} {Mx : Mem} {pv : Nat → Option Value} {callk : Nat → List D → R}

def exitOf : Ex → Exit
  | .normal => .normal
  | .exit i => .exit i
  | .ret => .ret

def ExecOK (P : Program) (E : Env) (X : Nat → Prop) (w0 : World) (Mx : Mem) (pv : Nat → Option Value) (ex : St → (Ex → St → R) → R) (c : Code) : Prop :=
  ∀ (Q : Exit → Act → World → Prop) (K : Ex → St → R) (r : List D) st a w, SI E X w0 Mx pv st a w → ex st K = some r → (∀ e st' a' w', SI E X w0 Mx pv st' a' w' → K e st' = some r → Q (exitOf e) a' w') → c.wp P Q a w

theorem ev_si {st : St} {a : Act} {ι : Nat → Value} {M : Mem} (hs : ∀ t s, st.slots t = some s → SVRel E.tt ι M s (a.eval (.tmp t))) {x : Operand} {s : SV} (h : ev st [] [] x = some s) : SVRel E.tt ι M s (a.eval x) := by
  cases x with
  | tmp t =>
    unfold ev at h
    exact hs t s (cond_some.1 h).2
  | const v => exact .of0 (const_rel h)
  | func f => cases h; exact .of0 (Rep.any _ rfl rfl)
  | _ => cases h

theorem iter_sound {nrm : St → Option St} {body : St → (Ex → St → R) → R} {c : Code} (hn : ∀ st st' a w, SI E X w0 Mx pv st a w → nrm st = some st' → SI E X w0 Mx pv st' a w) (hb : ExecOK P E X w0 Mx pv body c) {Q : Exit → Act → World → Prop} {K : Ex → St → R} {r : List D}
    (hQ : ∀ e st' a' w', SI E X w0 Mx pv st' a' w' → K e st' = some r → e ≠ .normal → Q (exitOf e) a' w') : ∀ n st a w, SI E X w0 Mx pv st a w → iterK nrm body n st K = some r → Code.rounds P c Q n a w := by
  intro n
  induction n with
  | zero => intro st a w _ h; cases h
  | succ n ih =>
    intro st a w h hk
    simp only [iterK] at hk
    rw [rounds_succ]
    refine hb _ _ r st a w h hk ?_
    intro e st' a' w' h' hk'
    cases e with
    | normal =>
      obtain ⟨st2, h2, hk'⟩ := opt_some.1 hk'
      exact ih st2 a' w' (hn st' st2 a' w' h' h2) hk'
    | exit i => exact hQ (.exit i) st' a' w' h' hk' (by intro e; cases e)
    | ret => exact hQ .ret st' a' w' h' hk' (by intro e; cases e)

theorem exec_sound (hm : P.follows .mixedOrders = true) (hT : TTok P E.tt) {W0 : World} (hS : Same W0 w0) (hX : ∀ b, X b → W0.heap.size ≤ b) (hcall : CallOK P E W0 callk) {an : List (Nat × Norm)} {n : Nat} {pins : List Nat} (hpv : ∀ p v, pv p = some v → p ∈ pins) : ∀ c : Code, okCode c = true → noDst pins c = true → ExecOK P E X w0 Mx pv (execK E callk an n c) c := by
  intro c
  induction c with
  | skip => intro _ _ Q K r st a w h hk hQ; exact wp_skip (hQ .normal st a w h hk)
  | region id ops draw =>
    intro hok hnd Q K r st a w h hk hQ
    refine region_sound hm hT hS hX hcall hok (fun i o hi t ht => ?_) (fun st' a' w' h' hk' => hQ .normal _ a' w' h' hk') h hk
    cases hp : pv t with
    | none => rfl
    | some v => exact absurd (hpv t v hp) (noDstL_spec hnd i o hi t ht)
  | seq x y ihx ihy =>
    intro hok hnd Q K r st a w h hk hQ
    simp only [okCode, Bool.and_eq_true] at hok
    simp only [noDst, Bool.and_eq_true] at hnd
    simp only [execK] at hk
    refine wp_seq (ihx hok.1 hnd.1 _ _ r st a w h hk ?_)
    intro e st' a' w' h' hk'
    cases e with
    | normal =>
      obtain ⟨st2, h2, hk'⟩ := opt_some.1 hk'
      exact ihy hok.2 hnd.2 Q K r st2 a' w' (normAt_sound h' h2) hk' hQ
    | exit i => exact hQ (.exit i) st' a' w' h' hk'
    | ret => exact hQ .ret st' a' w' h' hk'
  | cond x y z ihy ihz =>
    intro hok hnd Q K r st a w h hk hQ
    simp only [okCode, Bool.and_eq_true] at hok
    simp only [noDst, Bool.and_eq_true] at hnd
    simp only [execK] at hk
    split at hk
    · rename_i d hd
      have hc : a.eval x = .bool d.toBool := by
        obtain ⟨ι, M, H, hs⟩ := h.ex
        exact (Rep.inv_bool (ev_si hs hd)).1
      refine wp_cond hc ?_
      cases hb : d.toBool with
      | true =>
        rw [hb] at hk
        obtain ⟨st2, h2, hk⟩ := opt_some.1 hk
        exact ihy hok.1 hnd.1 Q K r st2 a w (normAt_sound h h2) hk hQ
      | false =>
        rw [hb] at hk
        obtain ⟨st2, h2, hk⟩ := opt_some.1 hk
        exact ihz hok.2 hnd.2 Q K r st2 a w (normAt_sound h h2) hk hQ
    · cases hk
  | block id x ih =>
    intro hok hnd Q K r st a w h hk hQ
    simp only [okCode] at hok
    simp only [noDst] at hnd
    simp only [execK] at hk
    refine wp_block (ih hok hnd _ _ r st a w h hk ?_)
    intro e st' a' w' h' hk'
    cases e with
    | normal => exact hQ .normal st' a' w' h' hk'
    | exit i =>
      simp only [exitOf, Exit.inBlock]
      simp only at hk'
      cases hb : Nat.beq i id with
      | true =>
        rw [hb] at hk'
        rw [if_pos (beq_iff.1 hb)]
        exact hQ .normal st' a' w' h' hk'
      | false =>
        rw [hb] at hk'
        rw [if_neg (beq_false.1 hb)]
        exact hQ (.exit i) st' a' w' h' hk'
    | ret => exact hQ .ret st' a' w' h' hk'
  | loop x ih =>
    intro hok hnd Q K r st a w h hk hQ
    simp only [okCode] at hok
    simp only [noDst] at hnd
    simp only [execK] at hk
    obtain ⟨st1, h1, hk⟩ := opt_some.1 hk
    replace h := normAt_sound h h1
    exact wp_loop_rounds n (iter_sound (fun st st' a w h h' => normAt_sound h h') (ih hok hnd) (fun e st' a' w' h' hk' _ => hQ e st' a' w' h' hk') n st1 a w h hk)
  | exit i => intro _ _ Q K r st a w h hk hQ; exact wp_exit (hQ (.exit i) st a w h hk)
  | ret => intro _ _ Q K r st a w h hk hQ; exact wp_ret (hQ .ret st a w h hk)
  | _ => intro _ _ Q K r st a w h hk hQ; cases hk

/-! ### Runs -/
structure FnOK (P : Program) (E : Env) (f : Nat) (fn : Func) : Prop where
  get : P.funcs[f]? = some fn
  name : (fn.name == "runtime.NumGoroutine") = false
  code : ∀ c, fn.body = some c → okCode c = true
  size : ∀ sg, lk f E.sigs = some sg → sg.params.length ≤ fn.ntmps
  pins : ∀ sg, lk f E.sigs = some sg → ∀ c, fn.body = some c → noDst (boxPs sg.params 0) c = true

/-- What is handed back: its number, what it is, its handle, where it came from. -/
structure Tr where
  id : Nat
  o : Obj
  v : Value
  src : Option Nat
def osT (T : List Tr) : List (Nat × Obj) := T.map fun x => (x.id, x.o)
def valT : List Tr → Nat → Value
  | [], _ => undef
  | x :: r, id => if x.id = id then x.v else valT r id
theorem osT_append (T U : List Tr) : osT (T ++ U) = osT T ++ osT U := by simp [osT]
theorem keysT (T : List Tr) : keysN (osT T) = T.map (·.id) := by
  induction T with
  | nil => rfl
  | cons x r ih => simp only [osT, List.map_cons, keysN] at ih ⊢; rw [ih]
theorem lk_osT {T : List Tr} {id : Nat} {o : Obj} (h : lk id (osT T) = some o) : ∃ x ∈ T, x.id = id ∧ x.o = o ∧ valT T id = x.v := by
  induction T with
  | nil => cases h
  | cons x r ih =>
    simp only [osT, List.map_cons, lk] at h
    cases hb : Nat.beq id x.id with
    | true =>
      rw [hb] at h; injection h with h
      have := beq_iff.1 hb
      exact ⟨x, List.mem_cons_self, this.symm, h, by simp [valT, this]⟩
    | false =>
      rw [hb] at h
      obtain ⟨y, h1, h2, h3, h4⟩ := ih h
      exact ⟨y, List.mem_cons_of_mem _ h1, h2, h3, by simp only [valT]; rw [if_neg (fun e => beq_false.1 hb e.symm)]; exact h4⟩
theorem valT_mem {T : List Tr} (hn : (T.map (·.id)).Nodup) {x : Tr} (hx : x ∈ T) : valT T x.id = x.v ∧ lk x.id (osT T) = some x.o := by
  induction T with
  | nil => cases hx
  | cons y r ih =>
    simp only [List.map_cons, List.nodup_cons] at hn
    simp only [valT, osT, List.map_cons, lk]
    rcases List.mem_cons.1 hx with rfl | hx
    · simp [beq_self]
    · have hne : y.id ≠ x.id := fun e => hn.1 (by rw [e]; exact List.mem_map_of_mem hx)
      obtain ⟨h1, h2⟩ := ih hn.2 hx
      rw [if_neg hne, beq_false.2 (fun e => hne e.symm)]
      exact ⟨h1, h2⟩

structure SrcOK (ι : Nat → Value) (objs objs' : Nat → Option Obj) (T : List Tr) : Prop where
  sub : ∀ id o, objs' id = some o → objs id = some o
  src : ∀ x ∈ T, (x.src = none ∧ x.v = .slice none 0 0) ∨ ∃ j o0, x.src = some j ∧ objs j = some o0 ∧ objs' j = none ∧ x.v = ι j
  dis : T.Pairwise fun x y => ∀ j, x.src = some j → y.src ≠ some j
theorem SrcOK.nil {ι : Nat → Value} {objs : Nat → Option Obj} : SrcOK ι objs objs [] := ⟨fun _ _ h => h, (fun x h => by cases h), .nil⟩
theorem SrcOK.app {ι : Nat → Value} {a b c : Nat → Option Obj} {T U : List Tr} (h : SrcOK ι a b T) (h' : SrcOK ι b c U) : SrcOK ι a c (T ++ U) := by
  refine ⟨fun id o ho => h.sub id o (h'.sub id o ho), fun x hx => ?_, ?_⟩
  · rcases List.mem_append.1 hx with hx | hx
    · rcases h.src x hx with q | ⟨j, o0, q1, q2, q3, q4⟩
      · exact .inl q
      · refine .inr ⟨j, o0, q1, q2, ?_, q4⟩
        cases hc : c j with
        | none => rfl
        | some o => have := h'.sub j o hc; rw [q3] at this; cases this
    · rcases h'.src x hx with q | ⟨j, o0, q1, q2, q3, q4⟩
      · exact .inl q
      · exact .inr ⟨j, o0, q1, h.sub j o0 q2, q3, q4⟩
  · refine List.pairwise_append.2 ⟨h.dis, h'.dis, fun x hx y hy j hj e => ?_⟩
    rcases h.src x hx with ⟨q, _⟩ | ⟨j1, o1, q1, q2, q3, q4⟩
    · rw [q] at hj; cases hj
    · rw [q1] at hj; injection hj with hj; subst hj
      rcases h'.src y hy with ⟨r, _⟩ | ⟨j2, o2, r1, r2, r3, r4⟩
      · rw [r] at e; cases e
      · rw [r1] at e; injection e with e; subst e
        rw [q3] at r2; cases r2
/-- One row. -/
theorem SrcOK.row {ι : Nat → Value} {objs : Nat → Option Obj} {i : Nat} {o0 : Obj} (h : objs i = some o0) (id : Nat) (o : Obj) : SrcOK ι objs (put objs i none) [⟨id, o, ι i, some i⟩] := by
  refine ⟨fun j o hj => ?_, fun x hx => ?_, List.pairwise_singleton _ _⟩
  · by_cases e : j = i
    · subst e; rw [put_same] at hj; cases hj
    · rw [put_other _ _ _ e] at hj; exact hj
  · simp at hx; subst hx
    exact .inr ⟨i, o0, rfl, h, put_same _ _ _, rfl⟩
theorem SrcOK.none {ι : Nat → Value} {objs : Nat → Option Obj} (id : Nat) (o : Obj) : SrcOK ι objs objs [⟨id, o, .slice none 0 0, none⟩] := by
  refine ⟨fun _ _ h => h, fun x hx => ?_, List.pairwise_singleton _ _⟩
  simp at hx; subst hx; exact .inl ⟨rfl, rfl⟩

def resVal (P : Program) (w : World) (tmps : Array Value) : ResultVar → Value
  | .tmp t => tmps.getD t undef
  | .cell t ty => match (do loadVar ty (← asAddr (tmps.getD t undef)) : Sem Value).run P w with
    | .ok u _ => u
    | _ => undef
def GoodRV (P : Program) (w : World) (tmps : Array Value) : ResultVar → Prop
  | .tmp _ => True
  | .cell t ty => ∃ u, (do loadVar ty (← asAddr (tmps.getD t undef)) : Sem Value).run P w = .ok u w
/-- A result that lies in a cell. -/
theorem cell_res (hT : TTok P E.tt) {ι : Nat → Value} {M : Mem} {a : Act} {w : World} {st : St} (hs : ∀ t s, st.slots t = some s → SVRel E.tt ι M s (a.eval (.tmp t))) (hobj : ∀ id o, st.objs id = some o → ObjRel E.tt ι M w id o)
    (hmem : ∀ ad v, M ad = some v → w.cell? ad = some v) {t : Nat} {ty : TypeId} {v : SV} (h : cellVal E st t ty = some v) :
    GoodRV P w a.tmps (.cell t ty) ∧ SVRel E.tt ι M v (resVal P w a.tmps (.cell t ty)) := by
  unfold cellVal at h
  split at h
  · rename_i c v' hl
    injection h with h; subst h
    have hev : ∀ x s, ev st [] [] x = some s → SVRel E.tt ι M s (a.eval x) := fun x s h => ev_si hs h
    obtain ⟨⟨u, h1, h2⟩, _⟩ := load_sound hT hev hobj hmem (o := ⟨none, .load ty (.tmp t), ty, "", #[], none⟩) rfl hl
    have hp : ∃ ad, a.eval (.tmp t) = .pointer (some ad) := by
      unfold loadO at hl
      obtain ⟨ti, _, hl⟩ := opt_some.1 hl
      obtain ⟨s, hs1, hl⟩ := opt_some.1 hl
      have hrel := hev _ _ hs1
      cases s with
      | eptr k d => obtain ⟨ad, _, _, _, e, _⟩ := hrel; exact ⟨ad, e⟩
      | bptr id u off k => obtain ⟨_, b, _, e⟩ := hrel; exact ⟨_, e⟩
      | optr id e i off k => obtain ⟨_, _, _, _, _, _, _, _, _, e⟩ := hrel; exact ⟨_, e⟩
      | _ => cases hl
    obtain ⟨ad, hp⟩ := hp
    have hrun : (loadVar ty ad).run P w = .ok u w := by
      have : (execOp a.eval ⟨none, .load ty (.tmp t), ty, "", #[], none⟩).run P w = ((do pure (Next.value (← loadVar ty ad))) : Sem Next).run P w := by
        simp [execOp, hp, Instr.loadAt, Instr.sureAddr]
      rw [this] at h1
      simp only [Sem.run_bind, Sem.run_pure] at h1
      cases hr : (loadVar ty ad).run P w with
      | ok u' w' =>
        rw [hr] at h1
        simp only [Result.andThen_ok] at h1
        injection h1 with e1 e2
        injection e1 with e1
        subst e1 e2; rfl
      | halt _ _ => rw [hr] at h1; cases h1
    have hp2 : a.tmps.getD t undef = .pointer (some ad) := hp
    have hrun2 : (do loadVar ty (← asAddr (a.tmps.getD t undef)) : Sem Value).run P w = .ok u w := by
      rw [hp2]
      simp only [asAddr, pure_bind]
      exact hrun
    refine ⟨⟨u, hrun2⟩, ?_⟩
    simp only [resVal, hrun2]
    exact h2
  · cases h
def ArrT (E : Env) (M : Mem) (w : World) (x : Tr) : Prop := (∃ e es ei, x.o = .arr e es ∧ lk e E.tt = some ei ∧ 0 < ei.cells.length ∧ ArrRel E.tt M w e ei x.v es) ∨ ∃ t kvs, x.o = .map t kvs ∧ ∀ ι' : Nat → Value, ι' x.id = x.v → ObjRel E.tt ι' M w x.id (.map t kvs)
/-- What a result names. -/
def Nam (s : SV) (x : Tr) (u : Value) : Prop := (s = .own x.id ∧ u = x.v ∧ ∃ y n c, u = .slice y n c) ∨ (s = .mp x.id ∧ u = x.v ∧ ∃ b, u = .map (some b))
theorem finRes_spec (hT : TTok P E.tt) {ι : Nat → Value} {M : Mem} {a : Act} {w : World} (hmem : ∀ ad v, M ad = some v → w.cell? ad = some v) (n : Nat) (slots : Nat → Option SV) (hs : ∀ t s, slots t = some s → SVRel E.tt ι M s (a.eval (.tmp t))) (base : Nat) (r : List D) :
    ∀ (vs : List ResultVar) (rs : List RM) (j : Nat) (q : List D) (objs objs' : Nat → Option Obj), (∀ id o, objs id = some o → ObjRel E.tt ι M w id o) → (∀ i, i < q.length → r.getD (j + i) .no = q.getD i .no) →
      finRes E ⟨n, slots, objs⟩ vs rs = some (q, objs') → (∀ rv ∈ vs, GoodRV P w a.tmps rv) ∧ q.length = rs.length ∧ ∀ svs os, resSV rs base j r = some (svs, os) → ∃ T, os = osT T ∧ (∀ x ∈ T, ArrT E M w x) ∧ SrcOK ι objs objs' T ∧ svs.length = vs.length ∧
        ∀ (i : Nat) (s : SV) (u : Value), svs[i]? = some s → (vs.map (resVal P w a.tmps))[i]? = some u → (∃ k d, s = .val k d ∧ Rep E.tt M k u d) ∨ (∃ x ∈ T, Nam s x u) ∨ s = .gone := by
  intro vs
  induction vs with
  | nil =>
    intro rs j q objs objs' hobj hq h
    cases rs with
    | nil =>
      injection h with h; injection h with h1 h2; subst h1 h2
      refine ⟨fun rv h => (by cases h), rfl, fun svs os h => ?_⟩
      injection h with h; injection h with h1 h2; subst h1 h2
      exact ⟨[], rfl, (fun x h => by cases h), .nil, rfl, fun i s u h => by simp at h⟩
    | cons _ _ => cases h
  | cons v vs ih =>
    intro rs j q objs objs' hobj hq h
    cases rs with
    | nil => cases v <;> cases h
    | cons rm rs =>
      cases v with
      | cell t ty =>
        cases rm with
        | own e => cases h
        | mp _ => cases h
        | any => cases h
        | val k =>
          simp only [finRes] at h
          replace h := opt_some.1 h
          obtain ⟨s, hs1, h⟩ := h
          replace h := opt_some.1 h
          obtain ⟨d, hd, h⟩ := h
          replace h := opt_some.1 h
          obtain ⟨x, hx, h⟩ := h
          injection h with h; injection h with h1 h2; subst h1 h2
          have e0 : r.getD j .no = d := by have := hq 0 (by simp); simpa using this
          obtain ⟨i1, i3, i2⟩ := ih rs (j + 1) x.1 objs x.2 hobj (fun i hi => by have := hq (i + 1) (by simp; omega); rw [show j + 1 + i = j + (i + 1) by omega, this]; rfl) hx
          obtain ⟨c1, c2⟩ := cell_res (P := P) hT (st := ⟨n, slots, objs⟩) hs hobj hmem hs1
          refine ⟨fun rv hrv => ?_, by simp [i3], fun svs os hr => ?_⟩
          · rcases List.mem_cons.1 hrv with rfl | hrv
            · exact c1
            · exact i1 rv hrv
          · simp only [resSV] at hr
            obtain ⟨y, hy, hr⟩ := opt_some.1 hr
            injection hr with hr; injection hr with h1 h2; subst h1 h2
            obtain ⟨T, k1, k2, k3, k4, k5⟩ := i2 y.1 y.2 hy
            have hrep : Rep E.tt M k (resVal P w a.tmps (.cell t ty)) d := svD_rel hd c2
            refine ⟨T, k1, k2, k3, by simp [k4], fun i s' u h1 h2 => ?_⟩
            cases i with
            | zero =>
              simp only [List.getElem?_cons_zero, Option.some.injEq] at h1
              simp only [List.map_cons, List.getElem?_cons_zero, Option.some.injEq] at h2
              subst h1 h2
              exact .inl ⟨k, _, rfl, by rw [e0, hrep.canon]; exact hrep⟩
            | succ i =>
              simp only [List.getElem?_cons_succ] at h1
              simp only [List.map_cons, List.getElem?_cons_succ] at h2
              exact k5 i s' u h1 h2
      | tmp t =>
        have htmp : resVal P w a.tmps (.tmp t) = a.eval (.tmp t) := rfl
        cases rm with
        | mp mt =>
          simp only [finRes] at h
          replace h := opt_some.1 h
          obtain ⟨s, hs1, h⟩ := h
          have hrel := ev_si (st := ⟨n, slots, objs⟩) hs hs1
          cases s with
          | mp i =>
            simp only at h
            cases hob : objs i with
            | none => rw [hob] at h; cases h
            | some o =>
              rw [hob] at h
              cases o with
              | arr _ _ => cases h
              | box _ _ => cases h
              | map t' kvs =>
                replace h := cond_some.1 h
                obtain ⟨he, h⟩ := h
                have he : t' = mt := beq_iff.1 he
                subst he
                replace h := opt_some.1 h
                obtain ⟨x, hx, h⟩ := h
                injection h with h; injection h with h1 h2; subst h1 h2
                obtain ⟨b, hι, hv⟩ : ∃ b, ι i = .map (some b) ∧ a.eval (.tmp t) = .map (some b) := hrel
                have hsrc : SrcOK ι objs (put objs i none) [⟨base + j, .map t' kvs, a.eval (.tmp t), some i⟩] := by rw [hv, ← hι]; exact .row hob _ _
                have e0 : r.getD j .no = .list (kvD kvs) := by have := hq 0 (by simp); simpa using this
                obtain ⟨i1, i3, i2⟩ := ih rs (j + 1) x.1 (put objs i none) x.2 (fun id o h => hobj id o (hsrc.sub id o h)) (fun i hi => by have := hq (i + 1) (by simp; omega); rw [show j + 1 + i = j + (i + 1) by omega, this]; rfl) hx
                refine ⟨fun rv hrv => ?_, by simp [i3], fun svs os hr => ?_⟩
                · rcases List.mem_cons.1 hrv with rfl | hrv
                  · exact trivial
                  · exact i1 rv hrv
                · simp only [resSV] at hr
                  obtain ⟨y, hy, hr⟩ := opt_some.1 hr
                  injection hr with hr; injection hr with h1 h2; subst h1 h2
                  obtain ⟨T, k1, k2, k3, k4, k5⟩ := i2 y.1 y.2 hy
                  refine ⟨⟨base + j, .map t' kvs, a.eval (.tmp t), some i⟩ :: T, ?_, fun z hz => ?_, hsrc.app k3, by simp [k4], fun i s' u h1 h2 => ?_⟩
                  · rw [e0, k1]
                    show (base + j, Obj.map t' (unkv (kvD kvs))) :: osT T = _
                    rw [unkv_kvD]; rfl
                  · rcases List.mem_cons.1 hz with rfl | hz
                    · refine .inr ⟨t', kvs, rfl, fun ι' hι' => ?_⟩
                      obtain ⟨ti, k, e, ki, ei, b2, es, clock, p1, p2, p3, p4, p5, p6, p7, p8, p9⟩ := hobj i _ hob
                      refine ⟨ti, k, e, ki, ei, b2, es, clock, p1, p2, p3, p4, p5, p6, p7, ?_, p9⟩
                      rw [← p8, hι, ← hv]; exact hι'
                    · exact k2 z hz
                  · cases i with
                    | zero =>
                      simp only [List.getElem?_cons_zero, Option.some.injEq] at h1
                      simp only [List.map_cons, List.getElem?_cons_zero, Option.some.injEq] at h2
                      subst h1 h2
                      exact .inr (.inl ⟨_, List.mem_cons_self, .inr ⟨rfl, htmp, b, htmp.trans hv⟩⟩)
                    | succ i =>
                      simp only [List.getElem?_cons_succ] at h1
                      simp only [List.map_cons, List.getElem?_cons_succ] at h2
                      rcases k5 i s' u h1 h2 with g | ⟨z, g1, g2⟩ | g
                      · exact .inl g
                      · exact .inr (.inl ⟨z, List.mem_cons_of_mem _ g1, g2⟩)
                      · exact .inr (.inr g)
          | _ => cases h
        | any =>
          simp only [finRes] at h
          replace h := opt_some.1 h
          obtain ⟨x, hx, h⟩ := h
          injection h with h; injection h with h1 h2; subst h1 h2
          obtain ⟨i1, i3, i2⟩ := ih rs (j + 1) x.1 objs x.2 hobj (fun i hi => by have := hq (i + 1) (by simp; omega); rw [show j + 1 + i = j + (i + 1) by omega, this]; rfl) hx
          refine ⟨fun rv hrv => ?_, by simp [i3], fun svs os hr => ?_⟩
          · rcases List.mem_cons.1 hrv with rfl | hrv
            · exact trivial
            · exact i1 rv hrv
          · simp only [resSV] at hr
            obtain ⟨y, hy, hr⟩ := opt_some.1 hr
            injection hr with hr; injection hr with h1 h2; subst h1 h2
            obtain ⟨T, k1, k2, k3, k4, k5⟩ := i2 y.1 y.2 hy
            refine ⟨T, k1, k2, k3, by simp [k4], fun i s' u h1 h2 => ?_⟩
            cases i with
            | zero =>
              simp only [List.getElem?_cons_zero, Option.some.injEq] at h1
              exact .inr (.inr h1.symm)
            | succ i =>
              simp only [List.getElem?_cons_succ] at h1
              simp only [List.map_cons, List.getElem?_cons_succ] at h2
              exact k5 i s' u h1 h2
        | val k =>
          simp only [finRes] at h
          replace h := opt_some.1 h
          obtain ⟨s, hs1, h⟩ := h
          replace h := opt_some.1 h
          obtain ⟨d, hd, h⟩ := h
          replace h := opt_some.1 h
          obtain ⟨x, hx, h⟩ := h
          injection h with h; injection h with h1 h2; subst h1 h2
          have e0 : r.getD j .no = d := by have := hq 0 (by simp); simpa using this
          obtain ⟨i1, i3, i2⟩ := ih rs (j + 1) x.1 objs x.2 hobj (fun i hi => by have := hq (i + 1) (by simp; omega); rw [show j + 1 + i = j + (i + 1) by omega, this]; rfl) hx
          refine ⟨fun rv hrv => ?_, by simp [i3], fun svs os hr => ?_⟩
          · rcases List.mem_cons.1 hrv with rfl | hrv
            · exact trivial
            · exact i1 rv hrv
          · simp only [resSV] at hr
            obtain ⟨y, hy, hr⟩ := opt_some.1 hr
            injection hr with hr; injection hr with h1 h2; subst h1 h2
            obtain ⟨T, k1, k2, k3, k4, k5⟩ := i2 y.1 y.2 hy
            have hrep : Rep E.tt M k (a.eval (.tmp t)) d := svD_rel hd (ev_si (st := ⟨n, slots, objs⟩) hs hs1)
            refine ⟨T, k1, k2, k3, by simp [k4], fun i s' u h1 h2 => ?_⟩
            cases i with
            | zero =>
              simp only [List.getElem?_cons_zero, Option.some.injEq] at h1
              simp only [List.map_cons, List.getElem?_cons_zero, Option.some.injEq] at h2
              subst h1 h2
              exact .inl ⟨k, _, rfl, by rw [e0, hrep.canon]; exact hrep⟩
            | succ i =>
              simp only [List.getElem?_cons_succ] at h1
              simp only [List.map_cons, List.getElem?_cons_succ] at h2
              exact k5 i s' u h1 h2
        | own e =>
          simp only [finRes] at h
          replace h := opt_some.1 h
          obtain ⟨s, hs1, h⟩ := h
          have hrel := ev_si (st := ⟨n, slots, objs⟩) hs hs1
          have fin : ∀ es x objs1 src, finRes E ⟨n, slots, objs1⟩ vs rs = some x → q = .list es :: x.1 → objs' = x.2 → SrcOK ι objs objs1 [⟨base + j, .arr e es, a.eval (.tmp t), src⟩] → (∃ ei, lk e E.tt = some ei ∧ 0 < ei.cells.length ∧ ArrRel E.tt M w e ei (a.eval (.tmp t)) es) → (∃ y n c, a.eval (.tmp t) = .slice y n c) →
              (∀ rv ∈ ResultVar.tmp t :: vs, GoodRV P w a.tmps rv) ∧ q.length = (RM.own e :: rs).length ∧ ∀ svs os, resSV (.own e :: rs) base j r = some (svs, os) → ∃ T, os = osT T ∧ (∀ x ∈ T, ArrT E M w x) ∧ SrcOK ι objs objs' T ∧ svs.length = (ResultVar.tmp t :: vs).length ∧
                ∀ (i : Nat) (s : SV) (u : Value), svs[i]? = some s → ((ResultVar.tmp t :: vs).map (resVal P w a.tmps))[i]? = some u → (∃ k d, s = .val k d ∧ Rep E.tt M k u d) ∨ (∃ x ∈ T, Nam s x u) ∨ s = .gone := by
            intro es x objs1 src hx hq0 ho hsrc harr hsl
            subst hq0 ho
            have e0 : r.getD j .no = .list es := by have := hq 0 (by simp); simpa using this
            obtain ⟨i1, i3, i2⟩ := ih rs (j + 1) x.1 objs1 x.2 (fun id o h => hobj id o (hsrc.sub id o h)) (fun i hi => by have := hq (i + 1) (by simp; omega); rw [show j + 1 + i = j + (i + 1) by omega, this]; rfl) hx
            refine ⟨fun rv hrv => ?_, by simp [i3], fun svs os hr => ?_⟩
            · rcases List.mem_cons.1 hrv with rfl | hrv
              · exact trivial
              · exact i1 rv hrv
            · simp only [resSV] at hr
              obtain ⟨y, hy, hr⟩ := opt_some.1 hr
              injection hr with hr; injection hr with h1 h2; subst h1 h2
              obtain ⟨T, k1, k2, k3, k4, k5⟩ := i2 y.1 y.2 hy
              refine ⟨⟨base + j, .arr e es, a.eval (.tmp t), src⟩ :: T, ?_, fun z hz => ?_, hsrc.app k3, by simp [k4], fun i s' u h1 h2 => ?_⟩
              · rw [e0, k1]; rfl
              · rcases List.mem_cons.1 hz with rfl | hz
                · obtain ⟨ei, g1, g2, g3⟩ := harr
                  exact .inl ⟨e, es, ei, rfl, g1, g2, g3⟩
                · exact k2 z hz
              · cases i with
                | zero =>
                  simp only [List.getElem?_cons_zero, Option.some.injEq] at h1
                  simp only [List.map_cons, List.getElem?_cons_zero, Option.some.injEq] at h2
                  subst h1 h2
                  exact .inr (.inl ⟨_, List.mem_cons_self, .inl ⟨rfl, htmp, hsl⟩⟩)
                | succ i =>
                  simp only [List.getElem?_cons_succ] at h1
                  simp only [List.map_cons, List.getElem?_cons_succ] at h2
                  rcases k5 i s' u h1 h2 with g | ⟨z, g1, g2⟩ | g
                  · exact .inl g
                  · exact .inr (.inl ⟨z, List.mem_cons_of_mem _ g1, g2⟩)
                  · exact .inr (.inr g)
          cases s with
          | nil =>
            simp only at h
            cases hei : lk e E.tt with
            | none => rw [hei] at h; cases h
            | some ei =>
              rw [hei] at h
              replace h := cond_some.1 h
              obtain ⟨hle, h⟩ := h
              replace h := opt_some.1 h
              obtain ⟨x, hx, h⟩ := h
              injection h with h; injection h with h1 h2
              have hv : a.eval (.tmp t) = .slice none 0 0 := hrel
              exact fin [] x objs none hx h1.symm h2.symm (by rw [hv]; exact .none _ _) ⟨ei, hei, Nat.le_of_ble_eq_true hle, .inl ⟨hv, rfl⟩⟩ ⟨_, _, _, hv⟩
          | own i =>
            simp only at h
            cases hob : objs i with
            | none => rw [hob] at h; cases h
            | some o =>
              rw [hob] at h
              cases o with
              | map _ _ => cases h
              | box _ _ => cases h
              | arr e' es =>
                replace h := cond_some.1 h
                obtain ⟨he, h⟩ := h
                have he := beq_iff.1 he
                subst he
                replace h := opt_some.1 h
                obtain ⟨x, hx, h⟩ := h
                injection h with h; injection h with h1 h2
                obtain ⟨hv, y1, y2, y3, hy⟩ : a.eval (.tmp t) = ι i ∧ ∃ a n c, ι i = .slice a n c := hrel
                obtain ⟨ei, g1, g2, g3⟩ := hobj i _ hob
                exact fin es x _ (some i) hx h1.symm h2.symm (by rw [hv]; exact .row hob _ _) ⟨ei, g1, g2, by rw [hv]; exact g3⟩ ⟨_, _, _, hv.trans hy⟩
          | _ => cases h

/-- What a box's cells hand back. -/
def CellT (E : Env) (ι : Nat → Value) (M : Mem) (T : List Tr) (i B c : Nat) (u : Value) (d0 : D) : CK → Prop
  | .val q => Rep E.tt M q u d0
  | .row _ => ∃ x ∈ T, x.id = rowId B c ∧ x.v = u ∧ ∃ y n z, u = .slice y n z
  | .self => u = .pointer none ∨ ∃ b, ι i = .pointer (some ⟨b, 0, none⟩) ∧ u = .pointer (some ⟨b, 0, none⟩)
  | .lent => False
theorem CellT.mono {ι : Nat → Value} {M : Mem} {T U : List Tr} {i B c : Nat} {u : Value} {d0 : D} {k : CK} (h : CellT E ι M T i B c u d0 k) (hs : ∀ x ∈ T, x ∈ U) : CellT E ι M U i B c u d0 k := by
  cases k with
  | row e => obtain ⟨x, h1, h2⟩ := h; exact ⟨x, hs x h1, h2⟩
  | _ => exact h
theorem finCells_spec {ι : Nat → Value} {M : Mem} {w : World} {i B : Nat} {d : D} : ∀ (cs : List CK) (c : Nat) (ss : List SV) (objs : Nat → Option Obj) (cds : List D) (objs' : Nat → Option Obj) (cc : List Value), finCells E i cs ss objs = some (cds, objs') → cc.length = ss.length →
    (∀ id o, objs id = some o → ObjRel E.tt ι M w id o) → (∀ (j : Nat) s u, ss[j]? = some s → cc[j]? = some u → SVRel0 E.tt ι M s u) → (∀ (j : Nat) d0, cds[j]? = some d0 → d.cell (c + j) = d0) →
    cs.length = ss.length ∧ cds.length = cs.length ∧ ∃ T, osT T = rowObjs B cs c d ∧ (∀ x ∈ T, ArrT E M w x) ∧ SrcOK ι objs objs' T ∧ ∀ (j : Nat) k u d0, cs[j]? = some k → cc[j]? = some u → cds[j]? = some d0 → CellT E ι M T i B (c + j) u d0 k := by
  intro cs
  induction cs with
  | nil =>
    intro c ss objs cds objs' cc h hl hobj hr hd
    cases ss with
    | nil =>
      injection h with h; injection h with h1 h2; subst h1 h2
      exact ⟨rfl, rfl, [], rfl, (fun x h => by cases h), .nil, fun j k u d0 hk => by simp at hk⟩
    | cons _ _ => cases h
  | cons k cs ih =>
    intro c ss objs cds objs' cc h hl hobj hr hd
    cases ss with
    | nil => cases k <;> cases h
    | cons s ss =>
      cases cc with
      | nil => simp at hl
      | cons u cc =>
        have h0 := hr 0 s u rfl rfl
        have step : ∀ d0 x objs1 T0, finCells E i cs ss objs1 = some x → cds = d0 :: x.1 → objs' = x.2 → SrcOK ι objs objs1 T0 → (∀ y ∈ T0, ArrT E M w y) → osT T0 ++ rowObjs B cs (c + 1) d = rowObjs B (k :: cs) c d → CellT E ι M T0 i B c u d0 k →
            (k :: cs).length = (s :: ss).length ∧ cds.length = (k :: cs).length ∧ ∃ T, osT T = rowObjs B (k :: cs) c d ∧ (∀ x ∈ T, ArrT E M w x) ∧ SrcOK ι objs objs' T ∧ ∀ (j : Nat) k' u' d', (k :: cs)[j]? = some k' → (u :: cc)[j]? = some u' → cds[j]? = some d' → CellT E ι M T i B (c + j) u' d' k' := by
          intro d0 x objs1 T0 hx hc ho hsrc harr hos hhead
          subst hc ho
          obtain ⟨q1, q2, T, q3, q4, q5, q6⟩ := ih (c + 1) ss objs1 x.1 x.2 cc hx (by simpa using hl) (fun id o h => hobj id o (hsrc.sub id o h)) (fun j s u hs hu => hr (j + 1) s u (by simpa using hs) (by simpa using hu)) (fun j d1 hj => by rw [show c + 1 + j = c + (j + 1) by omega]; exact hd (j + 1) d1 (by simpa using hj))
          refine ⟨by simp [q1], by simp [q2], T0 ++ T, by rw [osT_append, q3, hos], fun y hy => ?_, hsrc.app q5, fun j k' u' d' h1 h2 h3 => ?_⟩
          · rcases List.mem_append.1 hy with hy | hy
            · exact harr y hy
            · exact q4 y hy
          · cases j with
            | zero =>
              simp at h1 h2 h3
              subst h1 h2 h3
              exact hhead.mono (fun x hx => List.mem_append_left _ hx)
            | succ j =>
              have := q6 j k' u' d' (by simpa using h1) (by simpa using h2) (by simpa using h3)
              rw [show c + 1 + j = c + (j + 1) by omega] at this
              exact this.mono (fun x hx => List.mem_append_right _ hx)
        cases k with
        | lent => cases h
        | val q =>
          simp only [finCells] at h
          replace h := opt_some.1 h
          obtain ⟨d0, hd0, h⟩ := h
          replace h := opt_some.1 h
          obtain ⟨x, hx, h⟩ := h
          injection h with h; injection h with h1 h2
          exact step d0 x objs [] hx h1.symm h2.symm .nil (fun y h => by cases h) rfl (svD1_rel hd0 h0)
        | row e =>
          simp only [finCells] at h
          cases s with
          | nil =>
            simp only at h
            cases hei : lk e E.tt with
            | none => rw [hei] at h; cases h
            | some ei =>
              rw [hei] at h
              replace h := cond_some.1 h
              obtain ⟨hle, h⟩ := h
              replace h := opt_some.1 h
              obtain ⟨x, hx, h⟩ := h
              injection h with h; injection h with h1 h2
              have hv : u = .slice none 0 0 := h0
              have e0 : d.cell c = .list [] := by have := hd 0 (.list []) (by rw [← h1]; rfl); simpa using this
              exact step (.list []) x objs [⟨rowId B c, .arr e [], .slice none 0 0, none⟩] hx h1.symm h2.symm (.none _ _) (fun y hy => by simp at hy; subst hy; exact .inl ⟨e, [], ei, rfl, hei, Nat.le_of_ble_eq_true hle, .inl ⟨rfl, rfl⟩⟩) (by simp only [rowObjs, osT, List.map_cons, List.map_nil, e0]; rfl) ⟨⟨rowId B c, .arr e [], .slice none 0 0, none⟩, List.mem_singleton.2 rfl, rfl, hv.symm, ⟨_, _, _, hv⟩⟩
          | own i0 =>
            simp only at h
            cases hob : objs i0 with
            | none => rw [hob] at h; cases h
            | some o =>
              rw [hob] at h
              cases o with
              | map _ _ => cases h
              | box _ _ => cases h
              | arr e' es =>
                replace h := cond_some.1 h
                obtain ⟨he, h⟩ := h
                have he := beq_iff.1 he
                subst he
                replace h := opt_some.1 h
                obtain ⟨x, hx, h⟩ := h
                injection h with h; injection h with h1 h2
                obtain ⟨hv, y1, y2, y3, hy⟩ := h0
                obtain ⟨ei, g1, g2, g3⟩ := hobj i0 _ hob
                have e0 : d.cell c = .list es := by have := hd 0 (.list es) (by rw [← h1]; rfl); simpa using this
                exact step (.list es) x _ [⟨rowId B c, .arr e es, ι i0, some i0⟩] hx h1.symm h2.symm (.row hob _ _) (fun y hy => by simp at hy; subst hy; exact .inl ⟨e, es, ei, rfl, g1, g2, g3⟩) (by simp only [rowObjs, osT, List.map_cons, List.map_nil, e0]; rfl) ⟨⟨rowId B c, .arr e es, ι i0, some i0⟩, List.mem_singleton.2 rfl, rfl, hv.symm, ⟨_, _, _, hv.trans hy⟩⟩
          | _ => cases h
        | self =>
          simp only [finCells] at h
          cases s with
          | selfn i0 =>
            simp only at h
            replace h := cond_some.1 h
            obtain ⟨he, h⟩ := h
            have he := beq_iff.1 he
            subst he
            replace h := opt_some.1 h
            obtain ⟨x, hx, h⟩ := h
            injection h with h; injection h with h1 h2
            exact step .no x objs [] hx h1.symm h2.symm .nil (fun y h => by cases h) rfl h0
          | _ => cases h

/-- A thing that is handed back, in memory. -/
def TrOK (E : Env) (ι : Nat → Value) (M : Mem) (w : World) (T : List Tr) (x : Tr) : Prop :=
  ArrT E M w x ∨ ∃ t cs d ti b cc i, x.o = .box t (.cells (mkCells x.id cs 0 d)) ∧ lk t E.tt = some ti ∧ x.v = .pointer (some ⟨b, 0, none⟩) ∧ x.v = ι i ∧ w.heap[b]? = some (.cells cc t (0, 0)) ∧ cc.size = ti.cells.length ∧ cs.length = ti.cells.length ∧
    ∀ (j : Nat) k u, cs[j]? = some k → cc.toList[j]? = some u → CellT E ι M T i x.id (0 + j) u (d.cell (0 + j)) k
theorem TrOK.mono {ι : Nat → Value} {M : Mem} {w : World} {T U : List Tr} {x : Tr} (h : TrOK E ι M w T x) (hs : ∀ x ∈ T, x ∈ U) : TrOK E ι M w U x := by
  rcases h with h | ⟨t, cs, d, ti, b, cc, i, h1, h2, h3, h4, h5, h6, h7, h8⟩
  · exact .inl h
  · exact .inr ⟨t, cs, d, ti, b, cc, i, h1, h2, h3, h4, h5, h6, h7, fun j k u hk hu => (h8 j k u hk hu).mono hs⟩
theorem finBoxes_spec (hT : TTok P E.tt) {ι : Nat → Value} {M : Mem} {w : World} {slots : Nat → Option SV} (bid : Nat → Nat) (ds : List D) : ∀ (ps : List PM) (i n : Nat) (objs : Nat → Option Obj) (r : List D), finBoxes E slots ps i objs = some r →
    (∀ id o, objs id = some o → ObjRel E.tt ι M w id o) → (∀ j, j < r.length → ds.getD (n + j) .no = r.getD j .no) →
    ∃ T objs', boxObjs (boxesP bid i ps) n ds = osT T ∧ SrcOK ι objs objs' T ∧ (∀ x ∈ T, TrOK E ι M w T x) ∧ ∀ (q : Nat) t cs, ps[q]? = some (.box t cs) → (∃ x ∈ T, x.id = bid (i + q) ∧ x.v = ι (i + q)) ∧ isPar (i + q) (slots (i + q)) = true ∧ ∃ b, ι (i + q) = .pointer (some ⟨b, 0, none⟩) := by
  intro ps
  induction ps with
  | nil =>
    intro i n objs r h _ _
    exact ⟨[], objs, rfl, .nil, (fun x h => by cases h), fun q t cs h => by simp at h⟩
  | cons p ps ih =>
    intro i n objs r h hobj hd
    have skip : finBoxes E slots ps (i + 1) objs = some r → boxesP bid i (p :: ps) = boxesP bid (i + 1) ps → (∀ t cs, p ≠ .box t cs) →
        ∃ T objs', boxObjs (boxesP bid i (p :: ps)) n ds = osT T ∧ SrcOK ι objs objs' T ∧ (∀ x ∈ T, TrOK E ι M w T x) ∧ ∀ (q : Nat) t cs, (p :: ps)[q]? = some (.box t cs) → (∃ x ∈ T, x.id = bid (i + q) ∧ x.v = ι (i + q)) ∧ isPar (i + q) (slots (i + q)) = true ∧ ∃ b, ι (i + q) = .pointer (some ⟨b, 0, none⟩) := by
      intro h he hp
      obtain ⟨T, objs', h1, h2, h3, h4⟩ := ih (i + 1) n objs r h hobj hd
      refine ⟨T, objs', by rw [he]; exact h1, h2, h3, fun q t cs hq => ?_⟩
      cases q with
      | zero => simp at hq; exact absurd hq (hp t cs)
      | succ q =>
        have := h4 q t cs (by simpa using hq)
        rw [show i + 1 + q = i + (q + 1) by omega] at this
        exact this
    cases p with
    | box t cs =>
      simp only [finBoxes] at h
      cases hob : objs i with
      | none => rw [hob] at h; cases h
      | some o =>
        rw [hob] at h
        cases o with
        | map _ _ => cases h
        | arr _ _ => cases h
        | box u c =>
          replace h := cond_some.1 h
          obtain ⟨hc, h⟩ := h
          simp only [Bool.and_eq_true] at hc
          obtain ⟨hu, hpar, hnl⟩ := hc
          have hnl : isLent cs = false := by simpa using hnl
          have hu := beq_iff.1 hu
          subst hu
          replace h := opt_some.1 h
          obtain ⟨ti, hti, h⟩ := h
          replace h := opt_some.1 h
          obtain ⟨x, hx, h⟩ := h
          replace h := opt_some.1 h
          obtain ⟨r', hr', h⟩ := h
          injection h with h
          subst h
          have e0 : ds.getD n .no = .agg x.1 := by have := hd 0 (by simp); simpa using this
          obtain ⟨ti', b, cc, g1, g2, g3, g4⟩ := hobj i _ hob
          rw [hti] at g1; injection g1 with g1; subst g1
          obtain ⟨k1, k2, k3⟩ := toCells_rel hT hti g4
          have hsub : ∀ id o, put objs i none id = some o → objs id = some o := fun id o ho => by
            by_cases e : id = i
            · subst e; rw [put_same] at ho; cases ho
            · rw [put_other _ _ _ e] at ho; exact ho
          obtain ⟨f1, f2, T1, f3, f4, f5, f6⟩ := finCells_spec (w := w) (i := i) (B := bid i) (d := .agg x.1) cs 0 (c.toCells ti) (put objs i none) x.1 x.2 cc.toList hx (by rw [k2, Array.length_toList, k1]) (fun id o ho => hobj id o (hsub id o ho)) (fun j s u hs hu => k3 j s u hs (by simpa using hu)) (fun j d0 hj => by
            rw [Nat.zero_add]; show x.1.getD j .no = d0; rw [List.getD_eq_getElem?_getD, hj]; rfl)
          obtain ⟨T2, objs', h1, h2, h3, h4⟩ := ih (i + 1) (n + 1) x.2 r' hr' (fun id o ho => hobj id o (hsub id o (f5.sub id o ho))) (fun j hj => by have := hd (j + 1) (by simp; omega); rw [show n + 1 + j = n + (j + 1) by omega, this]; rfl)
          refine ⟨⟨bid i, .box u (.cells (mkCells (bid i) cs 0 (.agg x.1))), ι i, some i⟩ :: (T1 ++ T2), objs', ?_, (SrcOK.row hob _ _).app (f5.app h2), ?_, ?_⟩
          · simp only [boxesP, boxObjs, boxOb, hnl, cond_false, e0, f3.symm, h1]
            rw [← osT_append]; rfl
          · intro y hy
            rcases List.mem_cons.1 hy with rfl | hy
            · refine .inr ⟨u, cs, .agg x.1, ti, b, cc, i, rfl, hti, g2, rfl, g3, k1, by rw [f1, k2], fun j k v hk hv => ?_⟩
              have hlt : j < x.1.length := by rw [f2]; exact (List.getElem?_eq_some_iff.1 hk).1
              have := f6 j k v x.1[j] hk hv (List.getElem?_eq_getElem hlt)
              have e1 : (D.agg x.1).cell (0 + j) = x.1[j] := by
                rw [Nat.zero_add]; show x.1.getD j .no = x.1[j]; rw [List.getD_eq_getElem?_getD, List.getElem?_eq_getElem hlt]; rfl
              rw [e1]
              exact this.mono fun z hz => List.mem_cons_of_mem _ (List.mem_append_left _ hz)
            · rcases List.mem_append.1 hy with hy | hy
              · exact .inl (f4 y hy)
              · exact (h3 y hy).mono fun z hz => List.mem_cons_of_mem _ (List.mem_append_right _ hz)
          · intro q t' cs' hq
            cases q with
            | zero => exact ⟨⟨_, List.mem_cons_self, rfl, rfl⟩, hpar, b, g2⟩
            | succ q =>
              obtain ⟨⟨y, y1, y2, y3⟩, q2, q3⟩ := h4 q t' cs' (by simpa using hq)
              rw [show i + 1 + q = i + (q + 1) by omega] at y2 y3 q2 q3
              exact ⟨⟨y, List.mem_cons_of_mem _ (List.mem_append_right _ y1), y2, y3⟩, q2, q3⟩
    | val k => exact skip h rfl (fun _ _ e => by cases e)
    | own e => exact skip h rfl (fun _ _ e => by cases e)
    | ref k => exact skip h rfl (fun _ _ e => by cases e)

end
end Go.Proofs.YtcmeincdmphaoaaDoor.DS

namespace Go.Proofs.YtcmeincdmphaoaaDoor.DS

section
variable {P : Program} {E : Env}

def resultVal (us : List Value) : Value := match us with | [u] => u | l => .tuple l.toArray

theorem run_results {fn : Func} {tmps : Array Value} (w : World) (h : ∀ rv ∈ fn.results.toList, GoodRV P w tmps rv) : (results fn tmps).run P w = .ok (resultVal (fn.results.toList.map (resVal P w tmps))) w := by
  have key : ∀ (l : List ResultVar), (∀ rv ∈ l, GoodRV P w tmps rv) → (l.mapM (m := Sem) fun rv => match rv with
      | .tmp t => pure (tmps.getD t undef)
      | .cell a t => do loadVar t (← asAddr (tmps.getD a undef))).run P w = .ok (l.map (resVal P w tmps)) w := by
    intro l
    induction l with
    | nil => intro _; simp
    | cons x r ih =>
      intro h
      have hx := h x List.mem_cons_self
      cases x with
      | tmp t =>
        simp only [List.mapM_cons, Sem.run_bind, Sem.run_pure, Result.andThen_ok, ih (fun rv hrv => h rv (List.mem_cons_of_mem _ hrv)), List.map_cons]
        rfl
      | cell t ty =>
        obtain ⟨u, hu⟩ := hx
        have e : resVal P w tmps (.cell t ty) = u := by simp only [resVal, hu]
        rw [List.mapM_cons, Sem.run_bind]
        erw [hu]
        simp only [Sem.run_bind, Sem.run_pure, Result.andThen_ok, ih (fun rv hrv => h rv (List.mem_cons_of_mem _ hrv)), List.map_cons, e]
  unfold results
  rw [Array.mapM_eq_mapM_toList]
  have hk := key fn.results.toList h
  rw [Sem.run_bind, map_eq_pure_bind, Sem.run_bind]
  erw [hk]
  simp only [Result.andThen_ok, Sem.run_pure]
  generalize fn.results.toList.map (resVal P w tmps) = us
  cases us with
  | nil => rfl
  | cons u r => cases r <;> rfl

theorem nodupL_nd {l : List Nat} : nodupL l = true → l.Nodup := by
  induction l with
  | nil => intro _; exact .nil
  | cons x r ih =>
    intro h
    simp only [nodupL] at h
    cases hb : memN x r with
    | true => rw [hb] at h; cases h
    | false =>
      rw [hb] at h
      exact List.nodup_cons.2 ⟨memN_false hb, ih h⟩

theorem Tr_dis {T : List Tr} {R : Tr → Tr → Prop} (hp : T.Pairwise R) (hs : ∀ x y, R x y → R y x) {x y : Tr} (hx : x ∈ T) (hy : y ∈ T) (hne : x ≠ y) : R x y := by
  obtain ⟨i, hi, rfl⟩ := List.getElem_of_mem hx
  obtain ⟨j, hj, rfl⟩ := List.getElem_of_mem hy
  rw [List.pairwise_iff_getElem] at hp
  rcases Nat.lt_trichotomy i j with h | h | h
  · exact hp i j hi hj h
  · subst h; exact absurd rfl hne
  · exact hs _ _ (hp j i hj hi h)

/-- A function's end. -/
theorem fin_ret (hT : TTok P E.tt) {X : Nat → Prop} {w w' : World} {M : Mem} {pv : Nat → Option Value} {st : St} {a : Act} (h : SI E X w M pv st a w') {fn : Func} {ps : List PM} {rs : List RM} {vs : List Value}
    (hpv : ∀ p t cs, ps[p]? = some (.box t cs) → pv p = vs[p]? ∧ p < vs.length) {x : List D × (Nat → Option Obj)} {r : List D} (hf : finRes E st fn.results.toList rs = some x) (hb : finBoxes E st.slots ps 0 x.2 = some r) :
    ∃ v, (results fn a.tmps).run P w' = .ok v w' ∧ RetOK E X w M ps rs vs (x.1 ++ r) v w' := by
  obtain ⟨⟨ι, M', H, hs⟩, hwf, hsz, hdf, hpin⟩ := h
  cases st with
  | mk n slots objs =>
    have key := fun base => finRes_spec (P := P) (w := w') hT H.mem n slots hs base (x.1 ++ r) fn.results.toList rs 0 x.1 objs x.2 H.obj (fun i hi => by rw [Nat.zero_add, List.getD_eq_getElem?_getD, List.getD_eq_getElem?_getD, List.getElem?_append_left hi]) hf
    refine ⟨_, run_results w' (key 0).1, ?_⟩
    intro base bid svs os hr hnd
    obtain ⟨_, hlen, hres⟩ := key base
    obtain ⟨T1, k1, k2, k3, k4, k5⟩ := hres svs os hr
    obtain ⟨T2, objs', b1, b2, b3, b4⟩ := finBoxes_spec hT (w := w') bid (x.1 ++ r) ps 0 rs.length x.2 r hb (fun id o ho => H.obj id o (k3.sub id o ho)) (fun j hj => by
      rw [List.getD_eq_getElem?_getD, List.getD_eq_getElem?_getD, ← hlen, List.getElem?_append_right (Nat.le_add_right _ _), Nat.add_sub_cancel_left])
    subst k1
    rw [b1] at hnd ⊢
    rw [← osT_append] at hnd ⊢
    rw [keysT] at hnd
    have hnd := nodupL_nd hnd
    have S := k3.app b2
    have hall : ∀ y ∈ T1 ++ T2, TrOK E ι M' w' (T1 ++ T2) y := fun y hy => by
      rcases List.mem_append.1 hy with hy | hy
      · exact .inl (k2 y hy)
      · exact (b3 y hy).mono fun z hz => List.mem_append_right _ hz
    generalize hU : T1 ++ T2 = U at hnd S hall
    have hm1 : ∀ y ∈ T1, y ∈ U := fun y hy => by rw [← hU]; exact List.mem_append_left _ hy
    have hm2 : ∀ y ∈ T2, y ∈ U := fun y hy => by rw [← hU]; exact List.mem_append_right _ hy
    have hv : ∀ y ∈ U, valT U y.id = y.v := fun y hy => (valT_mem hnd hy).1
    refine ⟨valT U, M', ⟨?_, ?_, ?_, H.mem, H.memx, H.memB, H.os, H.tape, H.output, H.size, H.keep⟩, ?_, ?_, ?_⟩
    · intro id o ho
      obtain ⟨y, hy, rfl, rfl, e⟩ := lk_osT ho
      rcases hall y hy with (⟨e', es, ei, q1, q2, q3, q4⟩ | ⟨t', kvs, q1, q2⟩) | ⟨t, cs, d, ti, b, cc, i, q1, q2, q3, q4, q5, q6, q7, q8⟩
      · rw [q1]; exact ⟨ei, q2, q3, by rw [e]; exact q4⟩
      · rw [q1]; exact q2 _ e
      · rw [q1]
        refine ⟨ti, b, cc, q2, e.trans q3, q5, q6, by rw [mkCells_length, q7], fun j s u hj hu => ?_⟩
        rw [mkCells_get, Option.map_eq_some_iff] at hj
        obtain ⟨k, hk, rfl⟩ := hj
        have := q8 j k u hk (by simpa using hu)
        cases k with
        | lent => exact this.elim
        | val q =>
          have hc : Rep E.tt M' q u (d.cell (0 + j)) := this
          show Rep E.tt M' q u _
          rw [hc.canon]; exact hc
        | row e2 =>
          obtain ⟨z, z1, z2, z3, z4⟩ := this
          have := hv z z1
          rw [z2] at this
          exact ⟨by rw [this, z3], by rw [this, z3]; exact z4⟩
        | self =>
          rcases this with g | ⟨b', g1, g2⟩
          · exact .inl g
          · exact .inr ⟨b', by rw [e, q4]; exact g1, g2⟩
    · intro id id' o o' b h1 h2 hne hb1 hb2
      obtain ⟨y, hy, rfl, rfl, e⟩ := lk_osT h1
      obtain ⟨y', hy', rfl, rfl, e'⟩ := lk_osT h2
      rw [e] at hb1; rw [e'] at hb2
      have hdis := Tr_dis S.dis (fun x y hxy j hj hi => hxy j hi hj) hy hy' (fun e => hne (by rw [e]))
      rcases S.src y hy with ⟨_, g⟩ | ⟨j, o1, g1, g2, g3, g4⟩
      · rw [g] at hb1; cases hb1
      · rcases S.src y' hy' with ⟨_, g⟩ | ⟨j', o2, g1', g2', g3', g4'⟩
        · rw [g] at hb2; cases hb2
        · rw [g4] at hb1; rw [g4'] at hb2
          exact H.disj j j' o1 o2 b g2 g2' (fun e => hdis j g1 (by rw [g1', e])) hb1 hb2
    · intro id o b h1 hb1
      obtain ⟨y, hy, rfl, rfl, e⟩ := lk_osT h1
      rw [e] at hb1
      rcases S.src y hy with ⟨_, g⟩ | ⟨j, o1, g1, g2, g3, g4⟩
      · rw [g] at hb1; cases hb1
      · rw [g4] at hb1; exact H.own j o1 b g2 hb1
    · have k1 : ∀ (i : Nat) (s : SV) (u : Value), svs[i]? = some s → (fn.results.toList.map (resVal P w' a.tmps))[i]? = some u → SVRel0 E.tt (valT U) M' s u := by
        intro i s u h1 h2
        rcases k5 i s u h1 h2 with ⟨k, d, rfl, g⟩ | ⟨z, z1, ⟨rfl, z3, z4⟩ | ⟨rfl, z3, b, z4⟩⟩ | rfl
        · exact g
        · have := hv z (hm1 z z1)
          exact ⟨by rw [this, z3], by rw [this, ← z3]; exact z4⟩
        · have := hv z (hm1 z z1)
          exact ⟨b, by rw [this, ← z3]; exact z4, z4⟩
        · exact trivial
      have k8 : svs.length = (fn.results.toList.map (resVal P w' a.tmps)).length := by rw [k4, List.length_map]
      generalize fn.results.toList.map (resVal P w' a.tmps) = us at k1 k8
      have htup : SVRel E.tt (valT U) M' (.tup svs) (.tuple us.toArray) := ⟨us, rfl, k8.symm, k1⟩
      match svs, us, k8, k1, htup with
      | [], [], _, _, htup => exact htup
      | [s], [u], _, k1, _ => exact .of0 (k1 0 s u rfl rfl)
      | _ :: _ :: _, _ :: _ :: _, _, _, htup => exact htup
    · intro i hi
      have hi : ∃ s ∈ svs, i ∈ refs0 s := by
        obtain ⟨_, _, n3, _, n5⟩ := resSV_spec rs base 0 _ svs _ hr
        have : i ∈ refsL svs := by
          match svs, hi, n3, n5 with
          | [], hi, _, _ => exact hi
          | [s], hi, n3, n5 =>
            simp only [refsL, List.append_nil]
            cases s with
            | tup t => exact absurd List.mem_cons_self (n3 t)
            | sag t ks l => exact absurd List.mem_cons_self (n5 t ks l)
            | _ => exact hi
          | _ :: _ :: _, hi, _, _ => exact hi
        exact mem_refsL.1 this
      obtain ⟨s, h1, h2⟩ := hi
      exact (resSV_spec rs base 0 _ svs _ hr).2.1 s h1 i h2
    · intro p t cs hp
      obtain ⟨⟨y, y1, y2, y3⟩, q2, b, q3⟩ := b4 p t cs hp
      rw [Nat.zero_add] at y2 y3 q2 q3
      have e1 := hv y (hm2 y y1)
      rw [y2] at e1
      obtain ⟨p1, p2⟩ := hpv p t cs hp
      have hsl : ∃ u k, slots p = some (.bptr p u 0 k) := by
        unfold isPar at q2
        split at q2
        · rename_i j u off k hsl
          simp only [Bool.and_eq_true] at q2
          have a1 := beq_iff.1 q2.1
          have a2 := beq_iff.1 q2.2
          subst a1 a2
          exact ⟨u, k, hsl⟩
        · cases q2
      obtain ⟨u, k, hsl⟩ := hsl
      obtain ⟨_, b', c1, c2⟩ := hs p _ hsl
      rw [q3] at c1; injection c1 with c1; injection c1 with c1; injection c1 with c1
      have hpp := hpin p vs[p] (by rw [p1]; exact List.getElem?_eq_getElem p2)
      rw [List.getElem?_eq_getElem p2, e1, y3, q3, ← hpp, c2, c1]

structure EnvOK (P : Program) (E : Env) (W0 : World) : Prop where
  mixed : P.follows .mixedOrders = true
  tt : TTok P E.tt
  fns : ∀ f fn, lk f E.fns = some fn → FnOK P E f fn
  ext : ∀ f g, lk f E.ext = some g → ∀ sg ds r, lk f E.sigs = some sg → g ds = some r → ∀ (w : World) (M : Mem) (vs : List Value) (X : Nat → Prop), Same W0 w → (∀ b, X b → W0.heap.size ≤ b) → ArgsOK E X w M sg.params vs ds →
    CallsF P f vs.toArray w (RetOK E X w M sg.outs sg.results vs r)

theorem boxPs_mem : ∀ (ps : List PM) (i q : Nat) (t : TypeId) (cs : List CK), ps[q]? = some (.box t cs) → (i + q) ∈ boxPs ps i := by
  intro ps
  induction ps with
  | nil => intro i q t cs h; simp at h
  | cons p r ih =>
    intro i q t cs h
    cases q with
    | zero => simp at h; subst h; exact List.mem_cons_self
    | succ q =>
      have := ih (i + 1) q t cs (by simpa using h)
      rw [show i + 1 + q = i + (q + 1) by omega] at this
      cases p with
      | box _ _ => exact List.mem_cons_of_mem _ this
      | _ => exact this

theorem run_sound {W0 : World} (hE : EnvOK P E W0) : ∀ k, CallOK P E W0 (run E k) := by
  intro k
  induction k with
  | zero => intro f sg ds r _ h; cases h
  | succ k ih =>
    intro f sg ds r hsg h w M vs X hS hX hargs
    simp only [run] at h
    cases hx : lk f E.ext with
    | some g => rw [hx] at h; exact hE.ext f g hx sg ds r hsg h w M vs X hS hX hargs
    | none =>
      rw [hx] at h
      obtain ⟨fn, hfn, h⟩ := opt_some.1 h
      obtain ⟨sg', hsg', h⟩ := opt_some.1 h
      rw [hsg] at hsg'; injection hsg' with hsg'; subst hsg'
      obtain ⟨c, hc, h⟩ := opt_some.1 h
      replace h := opt_some.1 h
      obtain ⟨sl, hsl, h⟩ := h
      replace h := opt_some.1 h
      obtain ⟨st, hst, h⟩ := h
      have hF := hE.fns f fn hfn
      obtain ⟨hlen, sl1, sl2, ι, hp, H, hslots, hcells⟩ := hargs
      rw [hsl] at hp; injection hp with hp; subst hp
      have hsize : vs.length ≤ fn.ntmps := by rw [hlen]; exact hF.size sg hsg
      let pv : Nat → Option Value := fun p => cond (memN p (boxPs sg.params 0)) vs[p]? none
      have hpv : ∀ p v, pv p = some v → p ∈ boxPs sg.params 0 := fun p v hp => by
        cases hb : memN p (boxPs sg.params 0) with
        | true => exact memN_iff.1 hb
        | false => simp only [pv, hb] at hp; cases hp
      have hpv2 : ∀ p t cs, sg.params[p]? = some (.box t cs) → pv p = vs[p]? ∧ p < vs.length := fun p t cs hp => by
        refine ⟨?_, by rw [hlen]; exact (List.getElem?_eq_some_iff.1 hp).1⟩
        have := boxPs_mem sg.params 0 p t cs hp
        rw [Nat.zero_add] at this
        simp only [pv, memN_iff.2 this, cond_true]
      left
      refine ⟨?_, calls_of_wp hF.get hc ?_⟩
      · have h1 := hF.get
        have h2 : ¬ fn.name = "runtime.NumGoroutine" := by simpa using hF.name
        simp [callFunc, h1, h2, hc]
      · have hev : ∀ t v, vs[t]? = some v → Act.eval { tmps := vs.toArray ++ Array.replicate (fn.ntmps - vs.toArray.size) undef, defers := [] } (.tmp t) = v := by
          intro t v hv
          have hlt : t < vs.length := (List.getElem?_eq_some_iff.1 hv).1
          simp only [Act.eval, Array.getD_eq_getD_getElem?]
          rw [Array.getElem?_append_left (by simpa using hlt)]
          simp [hv]
        have hSI : SI E X w M pv ⟨fn.ntmps, fun t => lk t sl1, fun i => lk i sl2⟩ { tmps := vs.toArray ++ Array.replicate (fn.ntmps - vs.toArray.size) undef, defers := [] } w := by
          refine ⟨⟨ι, M, H, ?_⟩, ⟨fun t s ht i hi => (hslots t s ht).2 i hi, fun j o hj i hi => hcells j o hj i hi⟩, ?_, rfl, ?_⟩
          · intro t s ht
            obtain ⟨⟨v, hv, hrep⟩, _⟩ := hslots t s ht
            rw [hev t v hv]; exact hrep
          · simp; omega
          · intro p v hp
            refine hev p v ?_
            cases hb : memN p (boxPs sg.params 0) with
            | true => simp only [pv, hb, cond_true] at hp; exact hp
            | false => simp only [pv, hb] at hp; cases hp
        have hfin : ∀ st' a' w', SI E X w M pv st' a' w' → finK E fn sg .normal st' = some r → a'.defers = [] ∧ ∃ v, (results fn a'.tmps).run P w' = .ok v w' ∧ RetOK E X w M sg.outs sg.results vs r v w' := by
          intro st' a' w' h' hk
          unfold finK at hk
          have hgn : sg.gone = false := by
            cases hg : sg.gone with
            | true => rw [hg] at hk; cases hk
            | false => rfl
          have ho : sg.outs = sg.params := by unfold Sig.outs; rw [hgn]; rfl
          rw [hgn] at hk
          simp only [cond_false] at hk
          obtain ⟨st2, h2, hk⟩ := opt_some.1 hk
          obtain ⟨st3, h3, hk⟩ := opt_some.1 hk
          obtain ⟨x, hx, hk⟩ := opt_some.1 hk
          obtain ⟨rb, hrb, hk⟩ := opt_some.1 hk
          injection hk with hk; subst hk
          obtain ⟨v, h1, h3⟩ := fin_ret hE.tt (frzBoxes_sound _ _ _ (frzSlots_sound _ _ _ h' h2) h3) hpv2 hx hrb
          rw [ho]
          exact ⟨h'.defers, v, h1, h3⟩
        refine exec_sound hE.mixed hE.tt hS hX ih hpv c (hF.code c hc) (hF.pins sg hsg c hc) _ _ r st _ w (normAt_sound hSI hst) h ?_
        intro e st' a' w' h' hk
        cases e with
        | normal => exact hfin st' a' w' h' hk
        | exit i => cases hk
        | ret => exact hfin st' a' w' h' hk

end
end Go.Proofs.YtcmeincdmphaoaaDoor.DS

namespace Go.Proofs.YtcmeincdmphaoaaDoor.DS
open Go.RowKit

/-- How much a reading holds (of what the data keep). -/
def bulk {H : Type} : DataW H → Nat
  | .lit (.string bytes) => bytes.length + 1
  | .lit _ => 1
  | .nil => 1
  | .slice elems _ => bulkAll elems + 1
  | .agg parts => bulkAll parts + 1
  | _ => 0
where bulkAll {H : Type} : List (DataW H) → Nat
  | [] => 0
  | d :: r => bulk d + bulkAll r
def dmass : D → Nat
  | .str s => s.length + 1
  | .list xs => dmAll xs + 1
  | .agg cs => dmAll cs
  | .no => 0
  | _ => 1
where dmAll : List D → Nat
  | [] => 0
  | d :: r => dmass d + dmAll r
theorem dmAll_append (l m : List D) : dmass.dmAll (l ++ m) = dmass.dmAll l + dmass.dmAll m := by
  induction l with
  | nil => simp [dmass.dmAll]
  | cons d r ih => simp [dmass.dmAll, ih]; omega

theorem mapM_get {α β : Type} {f : α → Option β} : ∀ (l : List α) (r : List β), l.mapM f = some r → r.length = l.length ∧ ∀ (i : Nat) x, l[i]? = some x → ∃ y, r[i]? = some y ∧ f x = some y := by
  intro l
  induction l with
  | nil => intro r h; simp at h; subst h; exact ⟨rfl, fun i x h => by simp at h⟩
  | cons a l ih =>
    intro r h
    rw [List.mapM_cons] at h
    cases hf : f a with
    | none => rw [hf] at h; cases h
    | some y =>
      rw [hf] at h
      cases hl : l.mapM f with
      | none => rw [hl] at h; cases h
      | some ys =>
        rw [hl] at h
        injection h with h; subst h
        obtain ⟨h1, h2⟩ := ih ys hl
        refine ⟨by simp [h1], fun i x hx => ?_⟩
        cases i with
        | zero => simp at hx; subst hx; exact ⟨y, rfl, hf⟩
        | succ i => exact h2 i x (by simpa using hx)

/-- The fields of a struct lie side by side. -/
def tight (tt : TT) (total : Nat) : Nat → List (Nat × TypeId) → Bool
  | off, [] => Nat.beq off total
  | off, (o, t) :: r => Nat.beq o off && (match lk t tt with | some fi => tight tt total (off + fi.cells.length) r | none => false)
def Tight (tt : TT) : Prop := ∀ t ti, lk t tt = some ti → ti.kt.single = false → tight tt ti.cells.length 0 ti.fields = true
/-- Types through which no pointer is reached. -/
def NoPtr (tt : TT) (S : List Nat) : Prop := ∀ t ∈ S, ∀ ti, lk t tt = some ti → (ti.kt ≠ .ptr ∧ ti.kt ≠ .map ∧ ti.kt ≠ .any) ∧ (∀ e, ti.kt = .slice e → e ∈ S) ∧ ∀ f ∈ ti.fields, f.2 ∈ S
def fldIn (S : List Nat) : List (Nat × TypeId) → Bool
  | [] => true
  | (_, t) :: r => cond (memN t S) (fldIn S r) false
def npOk (tt : TT) (S : List Nat) (t : Nat) : Bool := match lk t tt with
  | some ti => (match ti.kt with | .ptr => false | .map => false | .any => false | .slice e => memN e S | _ => true) && fldIn S ti.fields
  | none => false
def npStep (tt : TT) (S : List Nat) : List Nat → List Nat
  | [] => []
  | t :: r => cond (npOk tt S t) (t :: npStep tt S r) (npStep tt S r)
def npIter (tt : TT) : Nat → List Nat → List Nat
  | 0, S => S
  | n + 1, S => let S' := npStep tt S S; cond (Nat.beq S'.length S.length) S (npIter tt n S')
def npSet (tt : TT) : List Nat := npIter tt 40 (keysN tt)
def npAll (tt : TT) (S : List Nat) : List Nat → Bool
  | [] => true
  | t :: r => cond (npOk tt S t) (npAll tt S r) false
theorem fldIn_spec {S : List Nat} : ∀ {l : List (Nat × TypeId)}, fldIn S l = true → ∀ f ∈ l, f.2 ∈ S := by
  intro l
  induction l with
  | nil => intro _ f h; cases h
  | cons x r ih =>
    obtain ⟨o, t⟩ := x
    intro h f hf
    simp only [fldIn] at h
    cases hb : memN t S with
    | false => rw [hb] at h; cases h
    | true =>
      rw [hb] at h
      rcases List.mem_cons.1 hf with rfl | hf
      · exact memN_iff.1 hb
      · exact ih h f hf
theorem npAll_spec {tt : TT} {S : List Nat} : ∀ {l : List Nat}, npAll tt S l = true → ∀ t ∈ l, npOk tt S t = true := by
  intro l
  induction l with
  | nil => intro _ t h; cases h
  | cons x r ih =>
    intro h t ht
    simp only [npAll] at h
    cases hb : npOk tt S x with
    | false => rw [hb] at h; cases h
    | true =>
      rw [hb] at h
      rcases List.mem_cons.1 ht with rfl | ht
      · exact hb
      · exact ih h t ht
theorem npAll_no {tt : TT} {S : List Nat} (h : npAll tt S S = true) : NoPtr tt S := by
  intro t ht ti hti
  have := npAll_spec h t ht
  unfold npOk at this
  rw [hti] at this
  simp only [Bool.and_eq_true] at this
  obtain ⟨h1, h2⟩ := this
  refine ⟨⟨fun e => ?_, fun e => ?_, fun e => ?_⟩, fun e he => ?_, fldIn_spec h2⟩
  · rw [e] at h1; cases h1
  · rw [e] at h1; cases h1
  · rw [e] at h1; cases h1
  · rw [he] at h1; exact memN_iff.1 h1
/-- No element has no cells. -/
def Elems (tt : TT) : Prop := ∀ t ti e, lk t tt = some ti → ti.kt = .slice e → ∃ ei, lk e tt = some ei ∧ 0 < ei.cells.length

section
variable {H : Type} {enc : TypeId × Value → H} {P : Program} {tt : TT} (hT : TTok P tt) (hti : Tight tt) (hel : Elems tt)

theorem cells_get {w : World} {a : Addr} {n : Nat} {cs : List Value} (h : w.cells? 0 a n = some cs) : cs.length = n ∧ ∀ j, j < n → ∃ c, cs[j]? = some c ∧ w.cell? (a.add j) = some c := by
  unfold World.cells? at h
  rw [if_pos (Nat.zero_le _)] at h
  obtain ⟨h1, h2⟩ := mapM_get _ _ h
  refine ⟨by simpa using h1, fun j hj => h2 j j ?_⟩
  simp [hj]

/-- Memory, all of it. -/
def allMem (w : World) : Mem := fun ad => w.cell? ad
theorem spot_of_cell {w : World} {a : Addr} {v : Value} (h : w.cell? a = some v) : a.spot = none := by
  unfold World.cell? at h
  split at h
  · cases hs : a.spot with
    | none => rfl
    | some s => rw [hs] at h; simp at h
  · cases h

/-- The fields' data, one behind the other. -/
theorem fields_rep {M : Mem} {ti : TI} {cs : List Value} {fs : List (Nat × TypeId)} (hT : TTok P tt) : ∀ (dWs : List (DataW H)) (off : Nat), tight tt ti.cells.length off fs = true → dWs.length = fs.length →
    (∀ (i : Nat) (f : Nat × TypeId) (dW : DataW H), fs[i]? = some f → dWs[i]? = some dW → ∃ fi v d, lk f.2 tt = some fi ∧ (ti.cells.drop f.1).take fi.cells.length = fi.cells ∧ Rep tt M fi.kt v d ∧ v.cells.toList = (cs.drop f.1).take fi.cells.length ∧ dmass d ≤ bulk dW) →
    ∃ ds : List D, off + ds.length = ti.cells.length ∧ (∀ (i : Nat) k c d, ti.cells[off + i]? = some k → cs[off + i]? = some c → ds[i]? = some d → Rep tt M k c d) ∧ dmass.dmAll ds ≤ bulk.bulkAll dWs := by
  induction fs with
  | nil =>
    intro dWs off h hl _
    exact ⟨[], by have := beq_iff.1 h; simpa using this, fun i k c d _ _ h => by simp at h, by simp [dmass.dmAll]⟩
  | cons f r ih =>
    intro dWs off h hl hall
    obtain ⟨o, t⟩ := f
    simp only [tight, Bool.and_eq_true] at h
    obtain ⟨ho, h⟩ := h
    have ho := beq_iff.1 ho
    subst ho
    cases dWs with
    | nil => simp at hl
    | cons dW dWs =>
      obtain ⟨fi, v, d, hfi, hcell, hrep, hv, hm⟩ := hall 0 (o, t) dW rfl rfl
      rw [hfi] at h
      simp only at h
      obtain ⟨ds, h1, h2, h3⟩ := ih dWs (o + fi.cells.length) h (by simpa using hl) (fun i f dW hf hd => hall (i + 1) f dW (by simpa using hf) (by simpa using hd))
      obtain ⟨q1, q2, q3⟩ := hrep.kt_cells hT hfi
      have hcl : dmass.dmAll d.cells ≤ dmass d := by
        cases d <;> simp [D.cells, dmass.dmAll, dmass]
      refine ⟨d.cells ++ ds, by rw [List.length_append, q2]; omega, ?_, by rw [dmAll_append]; simp only [bulk.bulkAll]; omega⟩
      intro i k c dd hk hc hd
      by_cases hi : i < d.cells.length
      · rw [List.getElem?_append_left hi] at hd
        have hk2 : fi.cells[i]? = some k := by
          rw [← hcell, List.getElem?_take, if_pos (by rw [← q2]; exact hi), List.getElem?_drop]; exact hk
        have hc2 : v.cells.toList[i]? = some c := by
          rw [hv, List.getElem?_take, if_pos (by rw [← q2]; exact hi), List.getElem?_drop]; exact hc
        obtain ⟨hk3, hk4⟩ := List.getElem?_eq_some_iff.1 hk2
        obtain ⟨hc3, hc4⟩ := List.getElem?_eq_some_iff.1 hc2
        obtain ⟨hd3, hd4⟩ := List.getElem?_eq_some_iff.1 hd
        have := q3 i hk3 (by simpa using hc3) hd3
        rw [hk4, hd4] at this
        rw [← hc4]
        simpa using this
      · rw [List.getElem?_append_right (by omega), q2] at hd
        rw [q2] at hi
        exact h2 (i - fi.cells.length) k c dd (by rw [← hk]; congr 1; omega) (by rw [← hc]; congr 1; omega) hd

theorem list_rep {α : Type} : ∀ (elems : List (DataW H × α)) (Q : Nat → Value → D → Prop), (∀ (i : Nat) x, elems[i]? = some x → ∃ v d, Q i v d ∧ dmass d ≤ bulk x.1) →
    ∃ (vs : List Value) (ds : List D), vs.length = elems.length ∧ ds.length = elems.length ∧ (∀ i v d, vs[i]? = some v → ds[i]? = some d → Q i v d) ∧ dmass.dmAll ds ≤ bulk.bulkAll (elems.map (·.1)) := by
  intro elems
  induction elems with
  | nil => intro Q _; exact ⟨[], [], rfl, rfl, fun i v d h => by simp at h, by simp [dmass.dmAll]⟩
  | cons x r ih =>
    intro Q h
    obtain ⟨v, d, h1, h2⟩ := h 0 x rfl
    obtain ⟨vs, ds, k1, k2, k3, k4⟩ := ih (fun i => Q (i + 1)) (fun i y hy => h (i + 1) y (by simpa using hy))
    refine ⟨v :: vs, d :: ds, by simp [k1], by simp [k2], ?_, by simp only [dmass.dmAll, List.map_cons, bulk.bulkAll]; omega⟩
    intro i v' d' hv hd
    cases i with
    | zero => simp at hv hd; subst hv hd; exact h1
    | succ i => exact k3 i v' d' (by simpa using hv) (by simpa using hd)

include hT hti hel in
theorem trod_rep {S : List Nat} (hnp : NoPtr tt S) {w : World} {sp : Nat → Bool} {hd : Bool} : ∀ fuel t ti cs (dW : DataW H) ps, lk t tt = some ti → t ∈ S → DataW.trod enc P w 0 sp hd fuel t cs = some (dW, ps) →
    ∃ v d, Rep tt (allMem w) ti.kt v d ∧ v.cells.toList = cs ∧ dmass d ≤ bulk dW := by
  intro fuel
  induction fuel with
  | zero => intro t ti cs dW ps _ _ h; cases h
  | succ fuel ih =>
    intro t ti cs dW ps ht htS h
    obtain ⟨np1, np2, np3⟩ := hnp t htS ti ht
    have hi := hT t ti ht
    have hu := hi.under
    cases hk : ti.kt with
    | ptr => exact absurd hk np1.1
    | map => exact absurd hk np1.2.1
    | any => exact absurd hk np1.2.2
    | bool =>
      rw [hk] at hu
      obtain ⟨b, rfl, hx⟩ := DataW.trod_bool hu.1 h
      injection hx with h1 h2; subst h1
      exact ⟨_, _, .bool b, rfl, by simp [dmass, bulk]⟩
    | int k =>
      rw [hk] at hu
      obtain ⟨n, rfl, hx, hw⟩ := DataW.trod_int hu.1 h
      injection hx with h1 h2; subst h1
      exact ⟨_, _, .int k n hw, rfl, by simp [dmass, bulk]⟩
    | str =>
      rw [hk] at hu
      obtain ⟨s, rfl, hx, hw⟩ := DataW.trod_string hu.1 h
      injection hx with h1 h2; subst h1
      exact ⟨_, _, .str s hw, rfl, by simp [dmass, bulk]⟩
    | slice e =>
      rw [hk] at hu
      obtain ⟨ei, he, hpos⟩ := hel t ti e ht hk
      have hes : P.cellsOf e = ei.cells.length := (hT e ei he).size
      rcases DataW.trod_slice hu.1 h with ⟨rfl, hx⟩ | ⟨a, len, cap, elems, rest, n, hn, rfl, hx, _, hlc, hcm, hlen, hel2, _⟩
      · injection hx with h1 h2; subst h1
        exact ⟨_, _, .nil e none 0 (Nat.zero_le _), rfl, by simp [dmass, bulk, dmass.dmAll]⟩
      · injection hx with h1 h2; subst h1
        injection hn with hn; subst hn
        rw [hes] at hel2
        have hget : ∀ (i : Nat) x, elems[i]? = some x → ∃ v d, (∃ cs, w.cells? 0 (a.add (i * ei.cells.length)) ei.cells.length = some cs ∧ v.cells.toList = cs ∧ Rep tt (allMem w) ei.kt v d) ∧ dmass d ≤ bulk x.1 := by
          intro i x hx
          have hil := (List.getElem?_eq_some_iff.1 hx).1
          have h1 := hel2 i (by omega)
          rw [hx] at h1
          cases hc : w.cells? 0 (a.add (i * ei.cells.length)) ei.cells.length with
          | none => rw [hc] at h1; cases h1
          | some cs =>
            rw [hc] at h1
            obtain ⟨v, d, s1, s2, s3⟩ := ih e ei cs x.1 x.2 he (np2 e hk) h1
            exact ⟨v, d, ⟨cs, rfl, s2, s1⟩, s3⟩
        obtain ⟨vs, ds, v1, v2, v3, v4⟩ := list_rep elems _ hget
        have hds : ds.length = len := by omega
        have hcell : ∀ i v d, vs[i]? = some v → ds[i]? = some d → Rep tt (allMem w) ei.kt v d ∧ v.cells.size = ei.cells.length ∧ ∀ j u, v.cells[j]? = some u → a.spot = none ∧ w.cell? ⟨a.block, a.off + (i * ei.cells.length + j), none⟩ = some u := by
          intro i v d hv hd
          obtain ⟨cs, c1, c2, c3⟩ := v3 i v d hv hd
          obtain ⟨g1, g2⟩ := cells_get c1
          have hsz : v.cells.size = ei.cells.length := by rw [← Array.length_toList, c2, g1]
          refine ⟨c3, hsz, fun j u hu => ?_⟩
          have hj : j < ei.cells.length := by rw [← hsz]; exact (Array.getElem?_eq_some_iff.1 hu).1
          obtain ⟨c, e1, e2⟩ := g2 j hj
          have huc : u = c := by
            rw [← c2, Array.getElem?_toList, hu] at e1
            injection e1
          subst huc
          have ha : a.spot = none := by
            obtain ⟨cs0, k1, k2, k3⟩ := v3 0 _ _ (List.getElem?_eq_getElem (show 0 < vs.length by have := (List.getElem?_eq_some_iff.1 hv).1; omega)) (List.getElem?_eq_getElem (show 0 < ds.length by have := (List.getElem?_eq_some_iff.1 hd).1; omega))
            obtain ⟨_, k5⟩ := cells_get k1
            obtain ⟨c1, _, k6⟩ := k5 0 (by omega)
            have := spot_of_cell k6
            simpa [Addr.add] using this
          refine ⟨ha, ?_⟩
          rw [add_spot a ha, add_spot _ rfl] at e2
          rw [← e2]
          congr 2
          simp only; omega
        cases hd0 : ds with
        | nil =>
          subst hd0
          simp at hds
          subst hds
          exact ⟨_, _, .nil e (some a) cap hcm, rfl, by simp [dmass, dmass.dmAll, bulk]⟩
        | cons d0 dr =>
          have hpos2 : 0 < ds.length := by rw [hd0]; simp
          have hget2 : ∀ i, i < ds.length → vs[i]? = some (vs.getD i undef) := fun i hi => by
            rw [List.getD_eq_getElem?_getD, List.getElem?_eq_getElem (show i < vs.length by omega)]; rfl
          have hspot : a.spot = none := by
            obtain ⟨_, k2, k3⟩ := hcell 0 _ _ (hget2 0 hpos2) (List.getElem?_eq_getElem hpos2)
            exact (k3 0 _ (Array.getElem?_eq_getElem (by rw [k2]; exact hpos))).1
          refine ⟨.slice (some a) ds.length cap, .list ds, .slice e ei a cap ds (fun i => vs.getD i undef) hpos2 (by omega) hcm he hspot ?_ ?_ ?_, by rw [hds]; rfl, by simp only [dmass, bulk]; omega⟩
          · intro i hi
            exact (hcell i _ _ (hget2 i hi) (List.getElem?_eq_getElem hi)).2.1
          · intro i j u hi hu
            exact ((hcell i _ _ (hget2 i hi) (List.getElem?_eq_getElem hi)).2.2 j u hu).2
          · intro i hi
            exact (hcell i _ _ (hget2 i hi) (List.getElem?_eq_getElem hi)).1
    | agg u =>
      rw [hk] at hu
      obtain ⟨rfl, fs, hfs, hfields, hall⟩ := hu
      obtain ⟨xs, n, hn, hx, hcl, hxl, hget⟩ := DataW.trod_struct hfs h
      injection hx with h1 h2; subst h1
      injection hn with hn; subst hn
      have htight := hti _ ti ht (by rw [hk]; rfl)
      obtain ⟨ds, q1, q2, q3⟩ := fields_rep (M := allMem w) (cs := cs) (ti := ti) hT (xs.map (·.1)) 0 htight (by rw [hfields]; simp [hxl]) (by
        intro i f dW hf hd
        rw [hfields, List.getElem?_map, Option.map_eq_some_iff] at hf
        obtain ⟨fd, hfd, rfl⟩ := hf
        obtain ⟨fi, r1, r2, r3⟩ := hall fd (List.mem_of_getElem? hfd)
        rw [List.getElem?_map, Option.map_eq_some_iff] at hd
        obtain ⟨x, hx, rfl⟩ := hd
        have hg := hget i fd (by rw [← hfd]; simp)
        rw [hx, (hT _ fi r1).size] at hg
        obtain ⟨v, d, s1, s2, s3⟩ := ih fd.type fi _ x.1 x.2 r1 (np3 (fd.offset, fd.type) (by rw [hfields]; exact List.mem_map.2 ⟨fd, List.mem_of_getElem? hfd, rfl⟩)) hg
        exact ⟨fi, v, d, r1, r2, s1, s2, s3⟩)
      have hsz := hi.size
      refine ⟨.agg cs.toArray, .agg ds, .agg _ ti cs ds ht hk (by omega) (by omega) (fun i h1 h2 h3 => ?_), by simp [Value.cells], by simp only [dmass, bulk]; omega⟩
      exact q2 i _ _ _ (by rw [Nat.zero_add]; exact List.getElem?_eq_getElem h1) (by rw [Nat.zero_add]; exact List.getElem?_eq_getElem h2) (List.getElem?_eq_getElem h3)

end
end Go.Proofs.YtcmeincdmphaoaaDoor.DS

namespace Go.Proofs.YtcmeincdmphaoaaDoor.DS
open Go.RowKit Go.ChangeShapes

/-- How parameters of these types are handed over. -/
def paramsOf0 (tt : TT) (S : List Nat) : List TypeId → Option (List PM)
  | [] => some []
  | t :: r => opt (lk t tt) fun ti => cond (memN t S) (opt (paramsOf0 tt S r) fun x => some (.val ti.kt :: x)) none
def paramsOf (tt : TT) (ts : List TypeId) : Option (List PM) := cond (npAll tt (npSet tt) (npSet tt)) (paramsOf0 tt (npSet tt) ts) none

section
variable {H : Type} {enc : TypeId × Value → H} {P : Program} {tt : TT} (hT : TTok P tt) (hti : Tight tt) (hel : Elems tt)

include hT hti hel in
theorem open_one {S : List Nat} (hnp : NoPtr tt S) {W : World} {base : Nat} {t : TypeId} {ti : TI} {v : Value} {d : DataW H} {ps : List MemPlace} (ht : lk t tt = some ti) (htS : t ∈ S) (hval : Value.okWide P W .any base t v) (h : DataW.Trod enc P W 0 (fun _ => true) true t v d ps) :
    ∃ x, Rep tt (allMem W) ti.kt v x ∧ dmass x ≤ bulk d := by
  obtain ⟨fuel, hf⟩ := h
  obtain ⟨v', x, h1, h2, h3⟩ := trod_rep hT hti hel hnp fuel t ti _ d ps ht htS hf
  have hu := (hT t ti ht).under
  have hone : ti.kt.single = true → v.cells = #[v] → v' = v := by
    intro hk hc
    have := (h1.cells_single hk).1
    rw [this, hc] at h2
    simpa using h2
  have : v' = v := by
    cases hk : ti.kt with
    | bool => rw [hk] at hu; obtain ⟨b, rfl⟩ := WideShapes.okWide_bool hu.1 hval; exact hone (by rw [hk]; rfl) rfl
    | int k => rw [hk] at hu; obtain ⟨b, rfl⟩ := WideShapes.okWide_int hu.1 hval; exact hone (by rw [hk]; rfl) rfl
    | str => rw [hk] at hu; obtain ⟨b, rfl⟩ := WideShapes.okWide_string hu.1 hval; exact hone (by rw [hk]; rfl) rfl
    | slice e => rw [hk] at hu; obtain ⟨_, _, _, rfl⟩ := WideShapes.okWide_slice hu.1 hval; exact hone (by rw [hk]; rfl) rfl
    | ptr => rw [hk] at h1; cases h1
    | map => rw [hk] at h1; cases h1
    | any => exact absurd hk (hnp t htS ti ht).1.2.2
    | agg u =>
      rw [hk] at hu
      obtain ⟨rfl, fs, hfs, _⟩ := hu
      obtain ⟨cs, rfl, _⟩ := WideShapes.okWide_struct hfs hval
      rw [hk] at h1
      obtain ⟨_, cs', rfl, _⟩ := h1.inv_agg
      simp only [Value.cells] at h2
      congr 1
      exact Array.toList_inj.1 h2
  subst this
  exact ⟨x, h1, h3⟩

include hT hti hel in
theorem open_all {S : List Nat} (hnp : NoPtr tt S) {W : World} {base : Nat} : ∀ (ts : List TypeId) (vs : List Value) (ds : List (DataW H)) (ps : List MemPlace) (pms : List PM), DataW.TrodAll enc P W 0 (fun _ => true) true ts vs ds ps →
    (∀ (j : Nat) t v, ts[j]? = some t → vs[j]? = some v → Value.okWide P W .any base t v) → paramsOf0 tt S ts = some pms → ∃ xs, ArgsRep tt (allMem W) pms vs xs ∧ dmass.dmAll xs ≤ bulk.bulkAll ds := by
  intro ts
  induction ts with
  | nil =>
    intro vs ds ps pms h _ hp
    obtain ⟨rfl, rfl, _⟩ := trodAll_nil h
    injection hp with hp; subst hp
    exact ⟨[], trivial, by simp [dmass.dmAll]⟩
  | cons t ts ih =>
    intro vs ds ps pms h hval hp
    obtain ⟨v, vs', d, ds', p, q, rfl, rfl, rfl, h0, h1⟩ := trodAll_cons h
    obtain ⟨ti, ht, hp⟩ := opt_some.1 hp
    obtain ⟨htS, hp⟩ := cond_some.1 hp
    obtain ⟨x, hx, hp⟩ := opt_some.1 hp
    injection hp with hp; subst hp
    obtain ⟨y, hy1, hy2⟩ := open_one hT hti hel hnp ht (memN_iff.1 htS) (hval 0 t v rfl rfl) h0
    obtain ⟨ys, hys1, hys2⟩ := ih vs' ds' q x h1 (fun j t v h1 h2 => hval (j + 1) t v (by simpa using h1) (by simpa using h2)) hx
    exact ⟨y :: ys, ⟨hy1, hys1⟩, by simp only [dmass.dmAll, bulk.bulkAll]; omega⟩

theorem trodAll_stays {W W' : World} (hl : laidOutB P = true) (hb : Below W.heap.size W W') {sp : Nat → Bool} : ∀ (ts : List TypeId) (vs : List Value) (ds : List (DataW H)) (ps : List MemPlace), (∀ t ∈ ts, P.readableRec t = true ∧ t < P.types.size) →
    DataW.TrodAll enc P W 0 (fun _ => true) true ts vs ds ps → (∀ x ∈ ps, x.block < W.heap.size) → (∀ x ∈ ps, sp x.block = true) → DataW.TrodAll enc P W' 0 sp true ts vs ds ps := by
  intro ts
  induction ts with
  | nil => intro vs ds ps _ h _ _; obtain ⟨rfl, rfl, rfl⟩ := trodAll_nil h; rfl
  | cons t ts ih =>
    intro vs ds ps hr h hlt hsp
    obtain ⟨v, vs', d, ds', p, q, rfl, rfl, rfl, h0, h1⟩ := trodAll_cons h
    obtain ⟨r1, r2⟩ := hr t List.mem_cons_self
    refine ⟨p, q, WideElems.Trod_stays hl r1 r2 h0 (fun x hx => hb.same (hlt x (List.mem_append_left _ hx))) (fun x hx => hsp x (List.mem_append_left _ hx)), ?_, rfl⟩
    exact ih vs' ds' q (fun t ht => hr t (List.mem_cons_of_mem _ ht)) h1 (fun x hx => hlt x (List.mem_append_right _ hx)) (fun x hx => hsp x (List.mem_append_right _ hx))
end

theorem paramsOf0_vals {tt : TT} {S : List Nat} : ∀ (ts : List TypeId) (ps : List PM), paramsOf0 tt S ts = some ps → allValP ps = true := by
  intro ts
  induction ts with
  | nil => intro ps h; injection h with h; subst h; rfl
  | cons t r ih =>
    intro ps h
    obtain ⟨ti, _, h⟩ := opt_some.1 h
    obtain ⟨_, h⟩ := cond_some.1 h
    obtain ⟨x, hx, h⟩ := opt_some.1 h
    injection h with h; subst h
    exact ih x hx

theorem law_contract_at {H : Type} {enc : TypeId × Value → H} {P : Program} {E : Env} {W : World} (hE : EnvOK P E W) (hti : Tight E.tt) (hel : Elems E.tt) {f : Nat} {fn : Func} {c : Code} {sg : Sig} (hf : P.funcs[f]? = some fn) (hname : (fn.name == "runtime.NumGoroutine") = false) (hbody : fn.body = some c)
    (hsg : lk f E.sigs = some sg) (hpm : paramsOf E.tt fn.params.toList = some sg.params) (hrs : sg.results = [.val .bool]) {tb : TypeId} (hrt : fn.resultTypes = #[tb]) (htb : P.underlying tb = some .bool) (hlaid : laidOutB P = true)
    (hread : ∀ t ∈ fn.params.toList, P.readableRec t = true ∧ t < P.types.size) {s : ChangeSpec} (hsv : s.vars = []) {apart fresh handsOn again : Bool} {base : Nat} {args : Array Value} {ds gs : List (DataW H)} {before : List MemPlace}
    (hval : ∀ (j : Nat) t v, fn.params[j]? = some t → args[j]? = some v → Value.okWide P W .any base t v) (hW : DataW.Whole enc P fn.params.toList s.vars apart W args.toList ds gs before)
    (hfn : s.fn H (ds ++ gs) = { results := [.lit (.bool true)], args := ds })
    (hrun : ∀ xs, ArgsRep E.tt (allMem W) sg.params args.toList xs → dmass.dmAll xs ≤ bulk.bulkAll ds → ∃ k, run E k f xs = some [.bool true]) :
    Calls P f args W fun e W' => ∃ v, e = .returned v ∧ s.post enc P fn apart fresh handsOn again W args v W' := by
  have hW' := hW
  obtain ⟨p, q, hA, hV, rfl, hfz, hnd⟩ := hW
  rw [hsv] at hV
  obtain ⟨rfl, rfl⟩ := trodVars_none hV
  obtain ⟨hnp, hpm⟩ := cond_some.1 hpm
  obtain ⟨xs, hx1, hx2⟩ := open_all hE.tt hti hel (npAll_no hnp) _ _ _ _ _ hA (fun j t v h1 h2 => hval j t v (by simpa using h1) (by simpa using h2)) hpm
  obtain ⟨k, hk⟩ := hrun xs hx1 hx2
  have hC := (run_sound hE k f sg xs _ hsg hk W (allMem W) args.toList (fun _ => False) (Same.refl W) (fun _ h => h.elim) (argsOK_of hx1 (fun _ _ h => h))).mono fun v w' hret => ret_vals (noBox_outs (noBox_of_val (paramsOf0_vals _ _ hpm))) hret
  rw [Array.toArray_toList] at hC
  have hent : (callFunc f args).run P W = .ok (.enter f args) W := by
    have h2 : ¬ fn.name = "runtime.NumGoroutine" := by simpa using hname
    simp [callFunc, hf, h2, hbody]
  have hcalls : Calls P f args W (fun | .returned v, w' => RetV E W (allMem W) sg.results [.bool true] v w' | _, _ => False) := by
    rcases hC with ⟨_, h⟩ | ⟨v, w', h, _⟩
    · exact h
    · rw [hent] at h; cases h
  refine hcalls.mono fun e W' he => ?_
  cases e with
  | panicked _ => exact he.elim
  | outgrown => exact he.elim
  | returned v =>
    obtain ⟨ι, M', HR, hv⟩ := he 0 [.val .bool (.bool true)] [] (by rw [hrs]; rfl)
    have hv2 : v = .bool true := (Rep.inv_bool (tt := E.tt) (M := M') (d := .bool true) hv).1
    subst hv2
    have hb : Below W.heap.size W W' := ⟨HR.os, HR.tape, HR.output, HR.size, fun k hk => HR.keep k hk (fun h => h)⟩
    have hlt : ∀ x ∈ p, x.block < W.heap.size := fun x hx => by simpa using hW'.lt x (List.mem_append_left _ hx)
    have hres : ∀ (b : Nat) (sp : Nat → Bool) (hd : Bool), DataW.TrodAll enc P W' b sp hd fn.resultTypes.toList ((Value.bool true).resultList fn.resultTypes.size) (s.fn H (ds ++ [])).results [] := by
      intro b sp hd
      rw [hrt, hfn]
      exact trodAll_cons_mk (shut_bool htb _) trodAll_mk0
    have hargs : ∀ sp : Nat → Bool, (∀ x ∈ p, sp x.block = true) → DataW.TrodAll enc P W' 0 sp true fn.params.toList args.toList (s.fn H (ds ++ [])).args p := by
      intro sp hsp
      rw [hfn]
      exact trodAll_stays hlaid hb _ _ _ _ hread hA hlt hsp
    have hvars : ∀ sp : Nat → Bool, DataW.TrodVars enc P W' sp s.vars (s.fn H (ds ++ [])).vars [] := by
      intro sp
      rw [hsv, hfn]; rfl
    refine ⟨_, rfl, ds, [], p ++ [], [], p, [], hW', hres _ _ _, hargs _ (fun x hx => by simpa using hlt x hx), hvars _, hb.frame _, fun _ => ?_⟩
    refine ⟨ok_one hrt rfl (okWide_bool_mk htb _), [.lit (.bool true)] ++ (s.fn H (ds ++ [])).args, (s.fn H (ds ++ [])).vars, ([] ++ p) ++ [], ⟨[] ++ p, [], ?_, hvars _, rfl, ?_, ?_⟩, fun x hx _ => by simpa using hx⟩
    · have h1 := hres 0 (fun _ => true) true
      rw [hfn] at h1
      exact trodAll_append (hargs _ (fun _ _ => rfl)) h1
    · intro b off hp
      have hp' : MemPlace.cell b off ∈ p := by simpa using hp
      rw [hb.frozen (hlt _ hp')]
      exact hfz b off (by simpa using hp')
    · intro ha
      simpa using hnd ha

end Go.Proofs.YtcmeincdmphaoaaDoor.DS

namespace Go.Proofs.YtcmeincdmphaoaaDoor.DS

def ktsEq : List KT → List KT → Bool
  | [], [] => true
  | a :: r, b :: s => KT.eq a b && ktsEq r s
  | _, _ => false
theorem ktsEq_iff {a b : List KT} : ktsEq a b = true ↔ a = b := by
  induction a generalizing b with
  | nil => cases b <;> simp [ktsEq]
  | cons x r ih => cases b <;> simp [ktsEq, KT.eq_iff, ih]
def fieldsEq : List (Nat × TypeId) → List Field → Bool
  | [], [] => true
  | (o, t) :: r, f :: s => Nat.beq o f.offset && (Nat.beq t f.type && fieldsEq r s)
  | _, _ => false
theorem fieldsEq_spec {a : List (Nat × TypeId)} {b : List Field} (h : fieldsEq a b = true) : a = b.map (fun f => (f.offset, f.type)) := by
  induction a generalizing b with
  | nil => cases b with
    | nil => rfl
    | cons _ _ => cases h
  | cons x r ih =>
    obtain ⟨o, t⟩ := x
    cases b with
    | nil => cases h
    | cons f s =>
      simp only [fieldsEq, Bool.and_eq_true] at h
      obtain ⟨h1, h2, h3⟩ := h
      rw [ih h3, beq_iff.1 h1, beq_iff.1 h2]; rfl
def isZeroV : KT → Value → Bool
  | .bool, .bool b => !b
  | .int k, .int k' n => ikEq k k' && decide (n = 0)
  | .str, .string s => isNilL s.data.toList
  | .slice _, .slice none 0 0 => true
  | .ptr, .pointer none => true
  | .map, .map none => true
  | .any, .nilFunc => true
  | _, _ => false
theorem isZeroV_spec {k : KT} {v : Value} (h : isZeroV k v = true) : v = zeroV k := by
  unfold isZeroV at h
  split at h
  · rename_i b; cases b with
    | true => cases h
    | false => rfl
  · simp only [Bool.and_eq_true, decide_eq_true_eq] at h
    rw [ikEq_iff.1 h.1, h.2]; rfl
  · rename_i s
    have : s.data.toList = [] := by
      cases hs : s.data.toList with
      | nil => rfl
      | cons _ _ => rw [hs] at h; cases h
    show Value.string s = .string .empty
    congr 1
    cases s with
    | mk d => congr 1; exact Array.toList_inj.1 this
  · rfl
  · rfl
  · rfl
  · rfl
  · cases h
def zerosB : List KT → List Value → Bool
  | [], [] => true
  | k :: r, v :: s => isZeroV k v && zerosB r s
  | _, _ => false
theorem zerosB_spec {ks : List KT} {vs : List Value} (h : zerosB ks vs = true) : vs.length = ks.length ∧ ∀ (j : Nat) k, ks[j]? = some k → vs[j]? = some (zeroV k) := by
  induction ks generalizing vs with
  | nil => cases vs with
    | nil => exact ⟨rfl, fun j k h => by simp at h⟩
    | cons _ _ => cases h
  | cons k r ih =>
    cases vs with
    | nil => cases h
    | cons v s =>
      simp only [zerosB, Bool.and_eq_true] at h
      obtain ⟨h1, h2⟩ := ih h.2
      refine ⟨by simp [h1], fun j k' hj => ?_⟩
      cases j with
      | zero => simp at hj; subst hj; simp [isZeroV_spec h.1]
      | succ j => simpa using h2 j k' (by simpa using hj)

def underB (P : Program) (tt : TT) (t : TypeId) (ti : TI) : Bool :=
  match ti.kt, P.underlying t with
  | .bool, some .bool => ktsEq ti.cells [.bool]
  | .int k, some (.int k') => ikEq k k' && ktsEq ti.cells [.int k]
  | .str, some .string => ktsEq ti.cells [.str]
  | .ptr, some (.pointer _) => ktsEq ti.cells [.ptr]
  | .any, some (.func _ _ _) => ktsEq ti.cells [.any]
  | .map, some (.map k e) => ktsEq ti.cells [.map] && (match ti.fields with | [(0, k'), (0, e')] => Nat.beq k k' && Nat.beq e e' | _ => false)
  | .slice e, some (.slice e') => Nat.beq e e' && (ktsEq ti.cells [.slice e] && (match lk e tt with | some ei => Nat.ble 1 ei.cells.length | none => false))
  | .agg u, some (.struct fs) => Nat.beq u t && (fieldsEq ti.fields fs.toList && (fs.toList.all (fun f => match lk f.type tt with
    | some fi => ktsEq ((ti.cells.drop f.offset).take fi.cells.length) fi.cells && Nat.ble (f.offset + fi.cells.length) ti.cells.length
    | none => false) && tight tt ti.cells.length 0 ti.fields))
  | _, _ => false
def zeroB (ti : TI) (z : Value) : Bool :=
  match ti.kt with
  | .agg _ => match z with
    | .agg cs => zerosB ti.cells cs.toList
    | _ => false
  | k => isZeroV k z && zerosB ti.cells [z]
/-- A struct of plain fields can be compared. -/
def namesB (P : Program) (tt : TT) (t : TypeId) (ti : TI) : Bool := !plainF tt ti.fields 0 || match P.underlying t with
  | some (.struct fs) => fs.toList.all (fun f => !(f.name == "_")) && (!P.stoodInHeld t && !P.eqGuardType P.depth t)
  | _ => true
theorem namesB_spec {P : Program} {tt : TT} {t : TypeId} {ti : TI} (h : namesB P tt t ti = true) (hp : plainF tt ti.fields 0 = true) (fs : Array Field) (hu : P.underlying t = some (.struct fs)) : (∀ f ∈ fs.toList, f.name ≠ "_") ∧ P.stoodInHeld t = false ∧ P.eqGuardType P.depth t = false := by
  unfold namesB at h
  rw [hp, hu] at h
  simp only [Bool.not_true, Bool.false_or, Bool.and_eq_true, Bool.not_eq_true'] at h
  refine ⟨fun f hf e => ?_, h.2.1, h.2.2⟩
  have := List.all_eq_true.1 h.1 f hf
  rw [e] at this
  simp at this
def tiB (P : Program) (tt : TT) (t : TypeId) (ti : TI) : Bool :=
  match P.info? t with
  | none => false
  | some i => Nat.beq (P.cellsOf t) ti.cells.length && (Nat.beq i.size ti.cells.length && (Nat.beq i.bytes ti.bytes && (underB P tt t ti && (namesB P tt t ti && (ti.cells.all KT.single && (match i.zero with
    | some z => zeroB ti z
    | none => false))))))
def ttB (P : Program) (tt : TT) : TT → Bool
  | [] => true
  | (t, ti) :: r => tiB P tt t ti && ttB P tt r

theorem tiB_spec {P : Program} {tt : TT} {t : TypeId} {ti : TI} (h : tiB P tt t ti = true) : TIok P tt t ti ∧ (ti.kt.single = false → tight tt ti.cells.length 0 ti.fields = true) ∧ (∀ e, ti.kt = .slice e → ∃ ei, lk e tt = some ei ∧ 0 < ei.cells.length) := by
  unfold tiB at h
  cases hi : P.info? t with
  | none => rw [hi] at h; cases h
  | some i =>
    rw [hi] at h
    simp only [Bool.and_eq_true] at h
    obtain ⟨h1, h2, h3, h4, h4n, h5, h6⟩ := h
    have h1 := beq_iff.1 h1
    have h2 := beq_iff.1 h2
    have h3 := beq_iff.1 h3
    have hz : ∃ z, i.zero = some z ∧ zeroB ti z = true := by
      cases hz : i.zero with
      | none => rw [hz] at h6; cases h6
      | some z => rw [hz] at h6; exact ⟨z, rfl, h6⟩
    obtain ⟨z, hz, h6⟩ := hz
    have hzero : z.cells.size = ti.cells.length ∧ (ti.kt.single = false → ∃ cs, z = .agg cs) ∧ (ti.kt.single = true → z.cells = #[z]) ∧ ∀ (j : Nat) (k : KT), ti.cells[j]? = some k → z.cells[j]? = some (zeroV k) := by
      unfold zeroB at h6
      have hsing : ∀ k, ti.kt = k → k.single = true → isZeroV k z = true → zerosB ti.cells [z] = true → z.cells = #[z] ∧ ∀ (j : Nat) (k : KT), ti.cells[j]? = some k → z.cells[j]? = some (zeroV k) := by
        intro k hk hs q1 q2
        have hz2 := isZeroV_spec q1
        have hc : z.cells = #[z] := by rw [hz2]; cases k <;> first | rfl | (simp [KT.single] at hs)
        refine ⟨hc, fun j k' hj => ?_⟩
        rw [hc]
        have := (zerosB_spec q2).2 j k' hj
        simpa using this
      have hlen : zerosB ti.cells [z] = true → ti.cells.length = 1 := fun q => by have := (zerosB_spec q).1; simpa using this.symm
      cases hk : ti.kt with
      | agg u =>
        rw [hk] at h6
        cases z with
        | agg cs =>
          obtain ⟨q1, q2⟩ := zerosB_spec h6
          refine ⟨by simpa [Value.cells] using q1, fun _ => ⟨cs, rfl⟩, fun h => by simp [KT.single] at h, fun j k hj => ?_⟩
          have := q2 j k hj
          simpa [Value.cells] using this
        | _ => cases h6
      | _ =>
        rw [hk] at h6
        simp only [Bool.and_eq_true] at h6
        obtain ⟨q1, q2⟩ := hsing _ hk rfl h6.1 h6.2
        exact ⟨by rw [q1, hlen h6.2]; rfl, fun h => by simp [KT.single] at h, fun _ => q1, q2⟩
    unfold underB at h4
    refine ⟨⟨h1, ⟨i, hi, h2, h3⟩, ?_, fun k hk => List.all_eq_true.1 h5 k hk, namesB_spec h4n, ⟨i, z, hi, hz, hzero⟩⟩, ?_, ?_⟩
    · split at h4
      · rename_i e1 e2; rw [e1]; exact ⟨e2, ktsEq_iff.1 h4⟩
      · rename_i e1 e2; simp only [Bool.and_eq_true] at h4; rw [e1, ikEq_iff.1 h4.1]; exact ⟨e2, by rw [← ikEq_iff.1 h4.1]; exact ktsEq_iff.1 h4.2⟩
      · rename_i e1 e2; rw [e1]; exact ⟨e2, ktsEq_iff.1 h4⟩
      · rename_i e1 e2; rw [e1]; exact ⟨⟨_, e2⟩, ktsEq_iff.1 h4⟩
      · rename_i e1 e2; rw [e1]; exact ⟨⟨_, _, _, e2⟩, ktsEq_iff.1 h4⟩
      · rename_i k e e1 e2
        simp only [Bool.and_eq_true] at h4
        rw [e1]
        refine ⟨⟨k, e, e2, ?_⟩, ktsEq_iff.1 h4.1⟩
        have h42 := h4.2
        split at h42
        · rename_i k' e' hfe
          simp only [Bool.and_eq_true] at h42
          rw [hfe, beq_iff.1 h42.1, beq_iff.1 h42.2]
        · cases h42
      · rename_i e e' e1 e2
        simp only [Bool.and_eq_true] at h4
        rw [e1]
        have := beq_iff.1 h4.1
        subst this
        refine ⟨e2, ktsEq_iff.1 h4.2.1, ?_⟩
        cases hl : lk e tt with
        | none => rw [hl] at h4; simp at h4
        | some _ => rfl
      · rename_i u fs e1 e2
        simp only [Bool.and_eq_true] at h4
        rw [e1]
        refine ⟨beq_iff.1 h4.1, fs, e2, fieldsEq_spec h4.2.1, fun f hf => ?_⟩
        have := List.all_eq_true.1 h4.2.2.1 f hf
        cases hl : lk f.type tt with
        | none => rw [hl] at this; cases this
        | some fi =>
          rw [hl] at this
          simp only [Bool.and_eq_true] at this
          exact ⟨fi, rfl, ktsEq_iff.1 this.1, Nat.le_of_ble_eq_true this.2⟩
      · cases h4
    · intro hs
      split at h4
      case h_8 => simp only [Bool.and_eq_true] at h4; exact h4.2.2.2
      case h_9 => cases h4
      all_goals (rename_i e1 e2; rw [e1] at hs; simp [KT.single] at hs)
    · intro e he
      rw [he] at h4
      split at h4
      case h_7 e1 e2 e3 e4 =>
        injection e3 with e3; subst e3
        simp only [Bool.and_eq_true] at h4
        cases hl : lk e tt with
        | none => rw [hl] at h4; simp at h4
        | some ei => rw [hl] at h4; exact ⟨ei, rfl, Nat.le_of_ble_eq_true h4.2.2⟩
      case h_9 => cases h4
      all_goals (rename_i e1 e2; cases e1)

theorem ttB_spec {P : Program} {tt : TT} : ∀ (l : TT), ttB P tt l = true → ∀ t ti, lk t l = some ti → tiB P tt t ti = true := by
  intro l
  induction l with
  | nil => intro _ t ti h; cases h
  | cons p r ih =>
    obtain ⟨u, x⟩ := p
    intro h t ti hl
    simp only [ttB, Bool.and_eq_true] at h
    simp only [lk] at hl
    cases hb : Nat.beq t u with
    | true => rw [hb] at hl; injection hl with hl; subst hl; rw [beq_iff.1 hb]; exact h.1
    | false => rw [hb] at hl; exact ih h.2 t ti hl
theorem tt_ok {P : Program} {tt : TT} (h : ttB P tt tt = true) : TTok P tt ∧ Tight tt ∧ Elems tt :=
  ⟨fun t ti hl => (tiB_spec (ttB_spec tt h t ti hl)).1, fun t ti hl => (tiB_spec (ttB_spec tt h t ti hl)).2.1, fun t ti e hl => (tiB_spec (ttB_spec tt h t ti hl)).2.2 e⟩

def fnB (E : Env) (f : Nat) (fn : Func) : Bool :=
  !(fn.name == "runtime.NumGoroutine") && ((match fn.body with | some c => okCode c | none => true) && (match lk f E.sigs with | some sg => Nat.ble sg.params.length fn.ntmps && (match fn.body with | some c => noDst (boxPs sg.params 0) c | none => true) | none => true))
theorem fnB_spec {P : Program} {E : Env} {f : Nat} {fn : Func} (hget : P.funcs[f]? = some fn) (h : fnB E f fn = true) : FnOK P E f fn := by
  simp only [fnB, Bool.and_eq_true, Bool.not_eq_true'] at h
  obtain ⟨h1, h2, h3⟩ := h
  refine ⟨hget, h1, fun c hc => by rw [hc] at h2; exact h2, fun sg hsg => ?_, fun sg hsg c hc => ?_⟩
  · rw [hsg] at h3
    simp only [Bool.and_eq_true] at h3
    exact Nat.le_of_ble_eq_true h3.1
  · rw [hsg] at h3
    simp only [Bool.and_eq_true, hc] at h3
    exact h3.2

end Go.Proofs.YtcmeincdmphaoaaDoor.DS

namespace Go.Proofs.YtcmeincdmphaoaaDoor.DS

inductive LB : D → Prop
  | no : LB .no
  | bool (b : Bool) : LB (.bool b)
  | int (n : Int) : LB (.int n)
  | str (s : List UInt8) (h : s.length ≤ maxLen) : LB (.str s)
  | list (xs : List D) (h : xs.length ≤ maxLen) (hx : ∀ x ∈ xs, LB x) : LB (.list xs)
  | agg (cs : List D) (hx : ∀ x ∈ cs, LB x) : LB (.agg cs)
theorem LB.cell {d : D} (h : LB d) (i : Nat) : LB (d.cell i) := by
  have key : ∀ cs : List D, (∀ x ∈ cs, LB x) → LB (cs.getD i .no) := by
    intro cs hcs
    rw [List.getD_eq_getElem?_getD]
    cases hi : cs[i]? with
    | none => exact .no
    | some x => exact hcs x (List.mem_of_getElem? hi)
  cases h with
  | agg cs hx => exact key cs hx
  | no => exact key [.no] (fun x hx => by simp at hx; subst hx; exact .no)
  | bool b => exact key [.bool b] (fun x hx => by simp at hx; subst hx; exact .bool b)
  | int n => exact key [.int n] (fun x hx => by simp at hx; subst hx; exact .int n)
  | str s h => exact key [.str s] (fun x hx => by simp at hx; subst hx; exact .str s h)
  | list xs h hx => exact key [.list xs] (fun x hx' => by simp at hx'; subst hx'; exact .list xs h hx)
theorem LB.toList {d : D} (h : LB d) : LB (.list d.toList) := by
  cases h with
  | list xs h hx => exact .list xs h hx
  | _ => exact .list [] (Nat.zero_le _) (fun x hx => by cases hx)

theorem args_nil {tt : TT} {M : Mem} {vs : List Value} {xs : List D} (h : ArgsRep tt M [] vs xs) : vs = [] ∧ xs = [] := by
  cases vs <;> cases xs <;> first | exact ⟨rfl, rfl⟩ | exact False.elim h
theorem args_cons {tt : TT} {M : Mem} {k : KT} {ps : List PM} {vs : List Value} {xs : List D} (h : ArgsRep tt M (.val k :: ps) vs xs) : ∃ v vs' x xs', vs = v :: vs' ∧ xs = x :: xs' ∧ Rep tt M k v x ∧ ArgsRep tt M ps vs' xs' := by
  cases vs with
  | nil => cases xs <;> exact False.elim h
  | cons v vs =>
    cases xs with
    | nil => exact False.elim h
    | cons x xs => exact ⟨v, vs, x, xs, rfl, rfl, h.1, h.2⟩

theorem wrap64 {i : Int} (h0 : -9223372036854775808 ≤ i) (h1 : i ≤ 9223372036854775807) : IntKind.i64.wrap i = i := by
  simp only [IntKind.wrap, IntKind.signed, IntKind.bits]
  simp
  omega

end Go.Proofs.YtcmeincdmphaoaaDoor.DS

namespace Go.Proofs.YtcmeincdmphaoaaDoor.DS

section
variable (E : Env) (callk : Nat → List D → R) (an : List (Nat × Norm)) (n : Nat)
def blkK (id : Nat) (K : Ex → St → R) : Ex → St → R := fun e st' => match e with
  | .normal => K .normal st'
  | .exit i => cond (Nat.beq i id) (K .normal st') (K (.exit i) st')
  | .ret => K .ret st'
def subAt : Code → List Nat → Code
  | c, [] => c
  | .seq a _, 0 :: p => subAt a p
  | .seq _ b, _ :: p => subAt b p
  | .cond _ a _, 0 :: p => subAt a p
  | .cond _ _ b, _ :: p => subAt b p
  | .block _ c, _ :: p => subAt c p
  | .loop c, _ :: p => subAt c p
  | c, _ => c
end
/-- A state, written out. -/
def mkSt (n : Nat) (sl : List (Nat × SV)) (os : List (Nat × Obj)) : St := ⟨n, fun t => lk t sl, fun i => lk i os⟩

end Go.Proofs.YtcmeincdmphaoaaDoor.DS
