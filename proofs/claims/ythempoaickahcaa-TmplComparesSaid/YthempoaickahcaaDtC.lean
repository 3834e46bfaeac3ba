/- Code in memory; runs. -/
import Derived.Test.YthempoaickahcaaDtB
import Derived.LoopN
set_option linter.unusedVariables false
set_option linter.unusedSimpArgs false
namespace Go.Proofs.Ythempoaickahcaa.DS

section
variable {P : Program} {E : Env} {X : Nat → Prop} {w0 : World} {Mx : Mem} {callk : Nat → List D → R}

def exitOf : Ex → Exit
  | .normal => .normal
  | .exit i => .exit i
  | .ret => .ret

def ExecOK (P : Program) (E : Env) (X : Nat → Prop) (w0 : World) (Mx : Mem) (ex : St → (Ex → St → R) → R) (c : Code) : Prop :=
  ∀ (Q : Exit → Act → World → Prop) (K : Ex → St → R) (r : List D) st a w, SI E X w0 Mx st a w → ex st K = some r → (∀ e st' a' w', SI E X w0 Mx st' a' w' → K e st' = some r → Q (exitOf e) a' w') → c.wp P Q a w

theorem ev_si {st : St} {a : Act} {ι : Nat → Value} {M : Mem} (hs : ∀ t s, st.slots t = some s → SVRel E.tt ι M s (a.eval (.tmp t))) {x : Operand} {s : SV} (h : ev st [] [] x = some s) : SVRel E.tt ι M s (a.eval x) := by
  cases x with
  | tmp t =>
    unfold ev at h
    exact hs t s (cond_some.1 h).2
  | const v => exact .of0 (const_rel h)
  | _ => cases h

theorem iter_sound {nrm : St → Option St} {body : St → (Ex → St → R) → R} {c : Code} (hn : ∀ st st' a w, SI E X w0 Mx st a w → nrm st = some st' → SI E X w0 Mx st' a w) (hb : ExecOK P E X w0 Mx body c) {Q : Exit → Act → World → Prop} {K : Ex → St → R} {r : List D}
    (hQ : ∀ e st' a' w', SI E X w0 Mx st' a' w' → K e st' = some r → e ≠ .normal → Q (exitOf e) a' w') : ∀ n st a w, SI E X w0 Mx st a w → iterK nrm body n st K = some r → Code.rounds P c Q n a w := by
  intro n
  induction n with
  | zero => intro st a w _ h; cases h
  | succ n ih =>
    intro st a w h hk
    simp only [iterK] at hk
    rw [rounds_succ]
    refine hb _ _ r st a w h hk ?_
    intro e st' a' w' h' hk'
    cases e with
    | normal =>
      obtain ⟨st2, h2, hk'⟩ := opt_some.1 hk'
      exact ih st2 a' w' (hn st' st2 a' w' h' h2) hk'
    | exit i => exact hQ (.exit i) st' a' w' h' hk' (by intro e; cases e)
    | ret => exact hQ .ret st' a' w' h' hk' (by intro e; cases e)

theorem exec_sound (hm : P.follows .mixedOrders = true) (hT : TTok P E.tt) (hcall : CallOK P E callk) {an : List (Nat × Norm)} {n : Nat} : ∀ c : Code, okCode c = true → ExecOK P E X w0 Mx (execK E callk an n c) c := by
  intro c
  induction c with
  | skip => intro _ Q K r st a w h hk hQ; exact wp_skip (hQ .normal st a w h hk)
  | region id ops draw =>
    intro hok Q K r st a w h hk hQ
    exact region_sound hm hT hcall hok (fun st' a' w' h' hk' => hQ .normal _ a' w' h' hk') h hk
  | seq x y ihx ihy =>
    intro hok Q K r st a w h hk hQ
    simp only [okCode, Bool.and_eq_true] at hok
    simp only [execK] at hk
    refine wp_seq (ihx hok.1 _ _ r st a w h hk ?_)
    intro e st' a' w' h' hk'
    cases e with
    | normal =>
      obtain ⟨st2, h2, hk'⟩ := opt_some.1 hk'
      exact ihy hok.2 Q K r st2 a' w' (normAt_sound h' h2) hk' hQ
    | exit i => exact hQ (.exit i) st' a' w' h' hk'
    | ret => exact hQ .ret st' a' w' h' hk'
  | cond x y z ihy ihz =>
    intro hok Q K r st a w h hk hQ
    simp only [okCode, Bool.and_eq_true] at hok
    simp only [execK] at hk
    split at hk
    · rename_i d hd
      have hc : a.eval x = .bool d.toBool := by
        obtain ⟨ι, M, H, hs⟩ := h.ex
        exact (Rep.inv_bool (ev_si hs hd)).1
      refine wp_cond hc ?_
      cases hb : d.toBool with
      | true =>
        rw [hb] at hk
        obtain ⟨st2, h2, hk⟩ := opt_some.1 hk
        exact ihy hok.1 Q K r st2 a w (normAt_sound h h2) hk hQ
      | false =>
        rw [hb] at hk
        obtain ⟨st2, h2, hk⟩ := opt_some.1 hk
        exact ihz hok.2 Q K r st2 a w (normAt_sound h h2) hk hQ
    · cases hk
  | block id x ih =>
    intro hok Q K r st a w h hk hQ
    simp only [okCode] at hok
    simp only [execK] at hk
    refine wp_block (ih hok _ _ r st a w h hk ?_)
    intro e st' a' w' h' hk'
    cases e with
    | normal => exact hQ .normal st' a' w' h' hk'
    | exit i =>
      simp only [exitOf, Exit.inBlock]
      simp only at hk'
      cases hb : Nat.beq i id with
      | true =>
        rw [hb] at hk'
        rw [if_pos (beq_iff.1 hb)]
        exact hQ .normal st' a' w' h' hk'
      | false =>
        rw [hb] at hk'
        rw [if_neg (beq_false.1 hb)]
        exact hQ (.exit i) st' a' w' h' hk'
    | ret => exact hQ .ret st' a' w' h' hk'
  | loop x ih =>
    intro hok Q K r st a w h hk hQ
    simp only [okCode] at hok
    simp only [execK] at hk
    obtain ⟨st1, h1, hk⟩ := opt_some.1 hk
    replace h := normAt_sound h h1
    exact wp_loop_rounds n (iter_sound (fun st st' a w h h' => normAt_sound h h') (ih hok) (fun e st' a' w' h' hk' _ => hQ e st' a' w' h' hk') n st1 a w h hk)
  | exit i => intro _ Q K r st a w h hk hQ; exact wp_exit (hQ (.exit i) st a w h hk)
  | ret => intro _ Q K r st a w h hk hQ; exact wp_ret (hQ .ret st a w h hk)
  | _ => intro _ Q K r st a w h hk hQ; cases hk

/-! ### Runs -/
structure FnOK (P : Program) (E : Env) (f : Nat) (fn : Func) : Prop where
  get : P.funcs[f]? = some fn
  name : (fn.name == "runtime.NumGoroutine") = false
  code : ∀ c, fn.body = some c → okCode c = true
  size : ∀ sg, lk f E.sigs = some sg → sg.params.length ≤ fn.ntmps

structure FinRel (E : Env) (ι : Nat → Value) (M : Mem) (w : World) (objs : Nat → Option Obj) (base j : Nat) (svs : List SV) (os : List (Nat × Obj)) (us : List Value) : Prop where
  ex : ∃ ι2 : Nat → Value, (∀ (i : Nat) (s : SV) (u : Value), svs[i]? = some s → us[i]? = some u → SVRel0 E.tt ι2 M s u) ∧ (∀ id o, lk id os = some o → ObjRel E.tt ι2 M w id o) ∧
    (∀ id o b, lk id os = some o → blockOf (ι2 id) = some b → ∃ id0 o0, objs id0 = some o0 ∧ blockOf (ι id0) = some b) ∧
    (∀ id id' o o' b, lk id os = some o → lk id' os = some o' → id ≠ id' → blockOf (ι2 id) = some b → blockOf (ι2 id') ≠ some b)
  ge : ∀ id o, lk id os = some o → base + j ≤ id
  refs : ∀ (i : Nat) (s : SV), svs[i]? = some s → ∀ id, id ∈ refs0 s → base + j ≤ id
  noc : ∀ id o, lk id os = some o → objRefs0 o = []
  lens : svs.length = us.length

def resVal (tmps : Array Value) : ResultVar → Value
  | .tmp t => tmps.getD t undef
  | .cell t _ => tmps.getD t undef
theorem finRes_spec {ι : Nat → Value} {M : Mem} {a : Act} {w : World} (n : Nat) (slots : Nat → Option SV) (hs : ∀ t s, slots t = some s → SVRel E.tt ι M s (a.eval (.tmp t))) (base : Nat) (r : List D) :
    ∀ (vs : List ResultVar) (rs : List RM) (j : Nat) (q : List D) (objs : Nat → Option Obj), (∀ id o, objs id = some o → ObjRel E.tt ι M w id o) →
      (∀ id id' o o' b, objs id = some o → objs id' = some o' → id ≠ id' → blockOf (ι id) = some b → blockOf (ι id') ≠ some b) → (∀ i, r.getD (j + i) .no = q.getD i .no) →
      finRes E ⟨n, slots, objs⟩ vs rs = some q → (∀ rv ∈ vs, ∃ t, rv = .tmp t) ∧ ∀ svs os, resSV rs base j r = some (svs, os) → FinRel E ι M w objs base j svs os (vs.map (resVal a.tmps)) := by
  intro vs
  induction vs with
  | nil =>
    intro rs j q objs hobj hdis hq h
    cases rs with
    | nil =>
      refine ⟨fun rv h => (by cases h), fun svs os h => ?_⟩
      injection h with h; injection h with h1 h2; subst h1 h2
      refine ⟨⟨ι, fun i s u h => ?_, fun id o h => ?_, fun id o b h => ?_, fun id id' o o' b h => ?_⟩, fun id o h => ?_, fun i s h => ?_, fun id o h => ?_, rfl⟩
      · simp at h
      all_goals first | (cases h; done) | (simp at h)
    | cons _ _ => cases h
  | cons v vs ih =>
    intro rs j q objs hobj hdis hq h
    cases rs with
    | nil => cases v <;> cases h
    | cons rm rs =>
      cases v with
      | cell t ty => cases rm <;> cases h
      | tmp t =>
        have htmp : resVal a.tmps (.tmp t) = a.eval (.tmp t) := rfl
        have hq' : ∀ q0 q1, q = q0 :: q1 → (r.getD j .no = q0 ∧ ∀ i, r.getD (j + 1 + i) .no = q1.getD i .no) := by
          intro q0 q1 e
          subst e
          refine ⟨hq 0, fun i => ?_⟩
          have := hq (i + 1)
          rw [show j + 1 + i = j + (i + 1) by omega, this]; rfl
        cases rm with
        | val k =>
          simp only [finRes] at h
          obtain ⟨s, hs1, h⟩ := opt_some.1 h
          obtain ⟨d, hd, h⟩ := opt_some.1 h
          obtain ⟨q1, hq1, h⟩ := opt_some.1 h
          injection h with h
          obtain ⟨e0, e1⟩ := hq' d q1 h.symm
          obtain ⟨i1, i2⟩ := ih rs (j + 1) q1 objs hobj hdis e1 hq1
          refine ⟨fun rv hrv => ?_, fun svs os hr => ?_⟩
          · rcases List.mem_cons.1 hrv with rfl | hrv
            · exact ⟨t, rfl⟩
            · exact i1 rv hrv
          · simp only [resSV] at hr
            obtain ⟨x, hx, hr⟩ := opt_some.1 hr
            injection hr with hr; injection hr with h1 h2; subst h1 h2
            obtain ⟨⟨ι2, k1, k2, k3, k4⟩, k5, k6, k7, k8⟩ := i2 x.1 x.2 hx
            have hrep : Rep E.tt M k (a.eval (.tmp t)) d := svD_rel hd (ev_si (st := ⟨n, slots, objs⟩) hs hs1)
            refine ⟨⟨ι2, ?_, k2, k3, k4⟩, fun id o h => (by have := k5 id o h; omega), ?_, k7, by simp [k8]⟩
            · intro i s' u h1 h2
              cases i with
              | zero =>
                simp only [List.getElem?_cons_zero, Option.some.injEq] at h1
                simp only [List.map_cons, List.getElem?_cons_zero, Option.some.injEq] at h2
                subst h1 h2
                rw [e0, hrep.canon]
                exact hrep
              | succ i =>
                simp only [List.getElem?_cons_succ] at h1
                simp only [List.map_cons, List.getElem?_cons_succ] at h2
                exact k1 i s' u h1 h2
            · intro i s' h1 id hid
              cases i with
              | zero => simp only [List.getElem?_cons_zero, Option.some.injEq] at h1; subst h1; cases hid
              | succ i =>
                simp only [List.getElem?_cons_succ] at h1
                have := k6 i s' h1 id hid; omega
        | own e =>
          simp only [finRes] at h
          obtain ⟨s, hs1, h⟩ := opt_some.1 h
          have hrel := ev_si (st := ⟨n, slots, objs⟩) hs hs1
          -- what is left to show, the row's handle and data being known
          have fin : ∀ es q1 objs', q = .list es :: q1 → finRes E ⟨n, slots, objs'⟩ vs rs = some q1 → (∀ id o, objs' id = some o → objs id = some o) →
              (∀ ι2 : Nat → Value, ι2 (base + j) = a.eval (.tmp t) → ObjRel E.tt ι2 M w (base + j) (.arr e es)) → (∃ x n c, a.eval (.tmp t) = .slice x n c) →
              (∀ b, blockOf (a.eval (.tmp t)) = some b → (∃ id0 o0, objs id0 = some o0 ∧ blockOf (ι id0) = some b ∧ objs' id0 = none)) →
              (∀ rv ∈ ResultVar.tmp t :: vs, ∃ t, rv = .tmp t) ∧ ∀ svs os, resSV (.own e :: rs) base j r = some (svs, os) → FinRel E ι M w objs base j svs os ((ResultVar.tmp t :: vs).map (resVal a.tmps)) := by
            intro es q1 objs' hq0 hq1 hsub hnew hsl hblk
            obtain ⟨e0, e1⟩ := hq' _ q1 hq0
            obtain ⟨i1, i2⟩ := ih rs (j + 1) q1 objs' (fun id o h => hobj id o (hsub id o h)) (fun id id' o o' b h1 h2 => hdis id id' o o' b (hsub id o h1) (hsub id' o' h2)) e1 hq1
            refine ⟨fun rv hrv => ?_, fun svs os hr => ?_⟩
            · rcases List.mem_cons.1 hrv with rfl | hrv
              · exact ⟨t, rfl⟩
              · exact i1 rv hrv
            · simp only [resSV] at hr
              obtain ⟨x, hx, hr⟩ := opt_some.1 hr
              injection hr with hr; injection hr with h1 h2; subst h1 h2
              obtain ⟨⟨ι2, k1, k2, k3, k4⟩, k5, k6, k7, k8⟩ := i2 x.1 x.2 hx
              have hne : ∀ id o, lk id x.2 = some o → id ≠ base + j := fun id o h => by have := k5 id o h; omega
              have hcase : ∀ id o, lk id ((base + j, Obj.arr e (r.getD j .no).toList) :: x.2) = some o → (id = base + j ∧ o = .arr e es) ∨ (id ≠ base + j ∧ lk id x.2 = some o) := by
                intro id o h
                simp only [lk] at h
                cases hb : Nat.beq id (base + j) with
                | true => rw [hb] at h; injection h with h; rw [e0] at h; exact .inl ⟨beq_iff.1 hb, h.symm⟩
                | false => rw [hb] at h; exact .inr ⟨beq_false.1 hb, h⟩
              refine ⟨⟨put ι2 (base + j) (a.eval (.tmp t)), ?_, ?_, ?_, ?_⟩, ?_, ?_, ?_, by simp [k8]⟩
              · intro i s' u h1 h2
                cases i with
                | zero =>
                  simp only [List.getElem?_cons_zero, Option.some.injEq] at h1
                  simp only [List.map_cons, List.getElem?_cons_zero, Option.some.injEq] at h2
                  subst h1 h2
                  refine ⟨(put_same _ _ _).symm, ?_⟩
                  rw [put_same]; exact hsl
                | succ i =>
                  simp only [List.getElem?_cons_succ] at h1
                  simp only [List.map_cons, List.getElem?_cons_succ] at h2
                  exact (k1 i s' u h1 h2).updι (fun hin => by have := k6 i s' h1 _ hin; omega)
              · intro id o h
                rcases hcase id o h with ⟨rfl, rfl⟩ | ⟨hid, h⟩
                · exact hnew _ (put_same _ _ _)
                · exact (k2 id o h).keep hid (by rw [k7 id o h]; exact fun h => by cases h) (fun _ _ => rfl)
              · intro id o b h hb
                rcases hcase id o h with ⟨rfl, rfl⟩ | ⟨hid, h⟩
                · rw [put_same] at hb
                  obtain ⟨id0, o0, h1, h2, _⟩ := hblk b hb
                  exact ⟨id0, o0, h1, h2⟩
                · rw [put_other _ _ _ hid] at hb
                  obtain ⟨id0, o0, h1, h2⟩ := k3 id o b h hb
                  exact ⟨id0, o0, hsub id0 o0 h1, h2⟩
              · have hx2 : ∀ id o b, lk id x.2 = some o → blockOf (ι2 id) = some b → blockOf (a.eval (.tmp t)) ≠ some b := by
                  intro id o b h1 h2 h3
                  obtain ⟨id0, o0, q1, q2, q3⟩ := hblk b h3
                  obtain ⟨id1, o1, r1, r2⟩ := k3 id o b h1 h2
                  have hne2 : id0 ≠ id1 := fun e => by subst e; rw [q3] at r1; cases r1
                  exact hdis id0 id1 o0 o1 b q1 (hsub id1 o1 r1) hne2 q2 r2
                intro id id' o o' b h1 h2 hid hb1 hb2
                rcases hcase id o h1 with ⟨rfl, rfl⟩ | ⟨hid1, h1⟩ <;> rcases hcase id' o' h2 with ⟨rfl, rfl⟩ | ⟨hid2, h2⟩
                · exact hid rfl
                · rw [put_same] at hb1; rw [put_other _ _ _ hid2] at hb2
                  exact hx2 id' o' b h2 hb2 hb1
                · rw [put_same] at hb2; rw [put_other _ _ _ hid1] at hb1
                  exact hx2 id o b h1 hb1 hb2
                · rw [put_other _ _ _ hid1] at hb1; rw [put_other _ _ _ hid2] at hb2
                  exact k4 id id' o o' b h1 h2 hid hb1 hb2
              · intro id o h
                rcases hcase id o h with ⟨rfl, rfl⟩ | ⟨hid, h⟩
                · omega
                · have := k5 id o h; omega
              · intro i s' h1 id hid
                cases i with
                | zero =>
                  simp only [List.getElem?_cons_zero, Option.some.injEq] at h1
                  subst h1
                  simp only [refs0, List.mem_singleton] at hid
                  omega
                | succ i =>
                  simp only [List.getElem?_cons_succ] at h1
                  have := k6 i s' h1 id hid; omega
              · intro id o h
                rcases hcase id o h with ⟨rfl, rfl⟩ | ⟨hid, h⟩
                · rfl
                · exact k7 id o h
          cases s with
          | nil =>
            simp only at h
            have hnil : a.eval (.tmp t) = .slice none 0 0 := hrel
            cases hei : lk e E.tt with
            | none => rw [hei] at h; cases h
            | some ei =>
              rw [hei] at h
              obtain ⟨hle, h⟩ := cond_some.1 h
              obtain ⟨q1, hq1, h⟩ := opt_some.1 h
              injection h with h
              exact fin [] q1 objs h.symm hq1 (fun _ _ h => h) (fun ι2 hι => ⟨ei, hei, Nat.le_of_ble_eq_true hle, .inl ⟨by rw [hι, hnil], rfl⟩⟩) ⟨_, _, _, hnil⟩ (fun b hb => by rw [hnil] at hb; cases hb)
          | own id =>
            simp only at h
            obtain ⟨hv, hsl⟩ : a.eval (.tmp t) = ι id ∧ _ := hrel
            cases hob : objs id with
            | none => rw [hob] at h; cases h
            | some o =>
              rw [hob] at h
              cases o with
              | box _ _ => cases h
              | arr e' es =>
                simp only at h
                obtain ⟨hee, hb⟩ := cond_some.1 h
                obtain ⟨q1, hq1, hb⟩ := opt_some.1 hb
                injection hb with hb
                have hee := beq_iff.1 hee
                subst hee
                obtain ⟨ei, r1, r2, r3⟩ := hobj id _ hob
                refine fin es q1 (put objs id none) hb.symm hq1 (fun i o hi => ?_) (fun ι2 hι => ⟨ei, r1, r2, by rw [hι, hv]; exact r3⟩) (by rw [hv]; exact hsl) (fun b hb => ⟨id, _, hob, by rw [← hv]; exact hb, put_same _ _ _⟩)
                by_cases e : i = id
                · subst e; rw [put_same] at hi; cases hi
                · rw [put_other _ _ _ e] at hi; exact hi
          | _ => cases h

end
end Go.Proofs.Ythempoaickahcaa.DS
