/- Calls: what they leave behind, in the caller's state. -/
import Derived.Test.YthempoaickahcaaDsU
set_option linter.unusedVariables false
set_option linter.unusedSimpArgs false
namespace Go.Proofs.Ythempoaickahcaa.DS

theorem SVRel0.congr {tt : TT} {ι ι' : Nat → Value} {M M' : Mem} {s : SV} {v : Value} (h : SVRel0 tt ι M s v) (hι : ∀ i, i ∈ refs0 s → ι' i = ι i) (hM : ∀ ad v, M ad = some v → M' ad = some v) : SVRel0 tt ι' M' s v := by
  cases s with
  | val k d => exact Rep.mono hM h
  | nil => exact h
  | eptr k d =>
    obtain ⟨ad, u, t, ti, h1, h2, h3, h4, h5, h6⟩ := h
    exact ⟨ad, u, t, ti, h1, h2, h3, h4, h5.mono hM, fun j c hj => hM _ _ (h6 j c hj)⟩
  | bptr i u off k =>
    obtain ⟨h1, b, h2, h3⟩ := h
    exact ⟨h1, b, by rw [hι i (by simp [refs0])]; exact h2, h3⟩
  | optr i e n off k =>
    obtain ⟨h1, b, n, cap, ei, h2, h3, h4⟩ := h
    exact ⟨h1, b, n, cap, ei, h2, by rw [hι i (by simp [refs0])]; exact h3, h4⟩
  | own i =>
    show v = ι' i ∧ ∃ a n c, ι' i = .slice a n c
    rw [hι i (by simp [refs0])]; exact h
  | tup l => exact h
  | gone => exact h
theorem SVRel.congr {tt : TT} {ι ι' : Nat → Value} {M M' : Mem} {s : SV} {v : Value} (h : SVRel tt ι M s v) (hι : ∀ i, i ∈ refsOf s → ι' i = ι i) (hM : ∀ ad v, M ad = some v → M' ad = some v) : SVRel tt ι' M' s v := by
  cases s with
  | tup l =>
    obtain ⟨vs, h1, h2, h3⟩ := h
    exact ⟨vs, h1, h2, fun i s x hs hx => (h3 i s x hs hx).congr (fun j hj => hι j (mem_refsL.2 ⟨s, List.mem_of_getElem? hs, hj⟩)) hM⟩
  | val k d => exact Rep.mono hM h
  | nil => exact h
  | eptr k d => exact SVRel0.congr (ι := ι) (ι' := ι') (s := .eptr k d) h (fun i hi => by cases hi) hM
  | bptr i u off k => exact SVRel0.congr (M := M) (s := .bptr i u off k) h hι hM
  | optr i e n off k => exact SVRel0.congr (M := M) (s := .optr i e n off k) h hι hM
  | own i => exact SVRel0.congr (tt := tt) (M := M) (s := .own i) h hι hM
  | gone => trivial
theorem ArrRel.congr {tt : TT} {M M' : Mem} {w w' : World} {ei : TI} {v : Value} {es : List D} (h : ArrRel tt M w ei v es) (hM : ∀ ad v, M ad = some v → M' ad = some v) (hh : ∀ b, blockOf v = some b → w'.heap[b]? = w.heap[b]?) : ArrRel tt M' w' ei v es := by
  rcases h with h | ⟨b, cap, cur, t, fr, vs, h1, h2, h3, h4, h5, h6, h7⟩
  · exact .inl h
  · refine .inr ⟨b, cap, cur, t, fr, vs, h1, by rw [hh b (by rw [h1]; rfl)]; exact h2, h3, h4, h5, h6, fun i hi => ?_⟩
    obtain ⟨q1, q2, q3⟩ := h7 i hi
    exact ⟨q1, q2, q3.mono hM⟩
theorem ObjRel.congr {tt : TT} {ι ι' : Nat → Value} {M M' : Mem} {w w' : World} {i : Nat} {o : Obj} (h : ObjRel tt ι M w i o) (hi : ι' i = ι i) (hι : ∀ j, j ∈ objRefs0 o → ι' j = ι j) (hM : ∀ ad v, M ad = some v → M' ad = some v)
    (hh : ∀ b, blockOf (ι i) = some b → w'.heap[b]? = w.heap[b]?) : ObjRel tt ι' M' w' i o := by
  cases o with
  | arr e es =>
    obtain ⟨ei, h1, h2, h3⟩ := h
    exact ⟨ei, h1, h2, by rw [hi]; exact h3.congr hM hh⟩
  | box t c =>
    obtain ⟨ti, b, cs, h1, h2, h3, h4⟩ := h
    refine ⟨ti, b, cs, h1, by rw [hi]; exact h2, by rw [hh b (by rw [h2]; rfl)]; exact h3, ?_⟩
    cases c with
    | whole d => exact ⟨h4.1, h4.2.mono hM⟩
    | cells l =>
      obtain ⟨h5, h6, h7⟩ := h4
      exact ⟨h5, h6, fun j s c hs hc => (h7 j s c hs hc).congr (fun k hk => hι k (mem_refsL.2 ⟨s, List.mem_of_getElem? hs, hk⟩)) hM⟩

theorem putAll_eq (f : Nat → Option Obj) (os : List (Nat × Obj)) (i : Nat) : putAll f os i = match lk i os with | some o => some o | none => f i := by
  induction os with
  | nil => rfl
  | cons p r ih =>
    obtain ⟨id, o⟩ := p
    simp only [putAll, put, lk]
    cases h : Nat.beq i id with
    | true => rfl
    | false => simp only [cond_false]; exact ih
theorem freshAll_spec {st : St} {os : List (Nat × Obj)} (h : freshAll st os = true) {i : Nat} {o : Obj} (hi : lk i os = some o) : st.objs i = none := by
  induction os with
  | nil => cases hi
  | cons p r ih =>
    obtain ⟨id, o'⟩ := p
    simp only [freshAll] at h
    cases hf : fresh st id with
    | false => rw [hf] at h; cases h
    | true =>
      rw [hf] at h
      simp only [lk] at hi
      cases hb : Nat.beq i id with
      | true =>
        have := beq_iff.1 hb; subst this
        unfold fresh at hf
        split at hf
        · cases hf
        · assumption
      | false => rw [hb] at hi; exact ih h hi

def joinι (os : List (Nat × Obj)) (ι ι2 : Nat → Value) (i : Nat) : Value := match lk i os with | some _ => ι2 i | none => ι i

/-- The caller's objects and the callee's. -/
theorem HRel.merge {tt : TT} {X : Nat → Prop} {w0 w w' : World} {Mx M M' : Mem} {ι ι2 : Nat → Value} {objs : Nat → Option Obj} {os : List (Nat × Obj)} (H : HRel tt X w0 Mx ι M objs w)
    (R : HRel tt (fun _ => False) w M ι2 M' (fun i => lk i os) w') (hf : ∀ i o, lk i os = some o → objs i = none) (hcells : ∀ j o, objs j = some o → ∀ i, i ∈ objRefs0 o → ∃ o', objs i = some o')
    (hno : ∀ i o, lk i os = some o → objRefs0 o = []) : HRel tt X w0 Mx (joinι os ι ι2) M' (putAll objs os) w' := by
  have hcase : ∀ i o, putAll objs os i = some o → (lk i os = some o ∧ joinι os ι ι2 i = ι2 i) ∨ (lk i os = none ∧ objs i = some o ∧ joinι os ι ι2 i = ι i) := by
    intro i o h
    rw [putAll_eq] at h
    unfold joinι
    cases hl : lk i os with
    | some o' => rw [hl] at h; injection h with h; subst h; exact .inl ⟨rfl, rfl⟩
    | none => rw [hl] at h; exact .inr ⟨rfl, h, rfl⟩
  have hold : ∀ i o, objs i = some o → joinι os ι ι2 i = ι i := by
    intro i o h
    unfold joinι
    cases hl : lk i os with
    | some o' => rw [hf i o' hl] at h; cases h
    | none => rfl
  have hkeep : ∀ b, b < w.heap.size → w'.heap[b]? = w.heap[b]? := fun b hb => R.keep b hb (fun h => h)
  have hge : ∀ i o b, lk i os = some o → blockOf (ι2 i) = some b → w.heap.size ≤ b := by
    intro i o b h1 h2
    rcases (R.own i o b h1 h2).1 with h | h
    · exact h
    · exact h.elim
  refine ⟨?_, ?_, ?_, R.mem, fun ad v h => R.memx ad v (H.memx ad v h), ?_, R.os.trans H.os, R.tape.trans H.tape, R.output.trans H.output, Nat.le_trans H.size R.size, ?_⟩
  · intro i o ho
    rcases hcase i o ho with ⟨h1, h2⟩ | ⟨_, h1, h2⟩
    · exact (R.obj i o h1).congr h2 (fun j hj => by rw [hno i o h1] at hj; cases hj) (fun _ _ h => h) (fun _ _ => rfl)
    · refine (H.obj i o h1).congr h2 (fun j hj => ?_) R.memx (fun b hb => hkeep b ((H.obj i o h1).block_lt hb))
      obtain ⟨o', ho'⟩ := hcells i o h1 j hj
      exact hold j o' ho'
  · intro i j oi oj b hi hj hij hbi hbj
    rcases hcase i oi hi with ⟨h1, h2⟩ | ⟨_, h1, h2⟩ <;> rcases hcase j oj hj with ⟨h3, h4⟩ | ⟨_, h3, h4⟩
    · rw [h2] at hbi; rw [h4] at hbj; exact R.disj i j oi oj b h1 h3 hij hbi hbj
    · rw [h2] at hbi; rw [h4] at hbj
      have := hge i oi b h1 hbi
      have := (H.obj j oj h3).block_lt hbj
      omega
    · rw [h2] at hbi; rw [h4] at hbj
      have := hge j oj b h3 hbj
      have := (H.obj i oi h1).block_lt hbi
      omega
    · rw [h2] at hbi; rw [h4] at hbj; exact H.disj i j oi oj b h1 h3 hij hbi hbj
  · intro i o b hi hb
    rcases hcase i o hi with ⟨h1, h2⟩ | ⟨_, h1, h2⟩
    · rw [h2] at hb
      obtain ⟨_, q2⟩ := R.own i o b h1 hb
      exact ⟨.inl (Nat.le_trans H.size (hge i o b h1 hb)), q2⟩
    · rw [h2] at hb
      obtain ⟨q1, q2⟩ := H.own i o b h1 hb
      refine ⟨q1, fun off sp => ?_⟩
      have hlt := (H.obj i o h1).block_lt hb
      rw [R.memB ⟨b, off, sp⟩ hlt (fun h => h)]
      exact q2 off sp
  · intro ad hb hX
    rw [R.memB ad (Nat.lt_of_lt_of_le hb H.size) (fun h => h)]
    exact H.memB ad hb hX
  · intro b hb hX
    rw [hkeep b (Nat.lt_of_lt_of_le hb H.size)]
    exact H.keep b hb hX

/-- Results that lie in memory. -/
theorem resSV_spec : ∀ (rs : List RM) (base j : Nat) (ds : List D) svs os, resSV rs base j ds = some (svs, os) →
    (∀ i o, lk i os = some o → objRefs0 o = []) ∧ (∀ s ∈ svs, ∀ i, i ∈ refs0 s → ∃ o, lk i os = some o) ∧ (∀ t, .tup t ∉ svs) ∧ svs.length = rs.length := by
  intro rs
  induction rs with
  | nil =>
    intro base j ds svs os h
    injection h with h; injection h with h1 h2; subst h1 h2
    exact ⟨fun i o h => (by cases h), fun s h => (by cases h), fun t h => (by cases h), rfl⟩
  | cons r rs ih =>
    intro base j ds svs os h
    cases r with
    | val k =>
      simp only [resSV] at h
      obtain ⟨x, hx, h⟩ := opt_some.1 h
      injection h with h; injection h with h1 h2; subst h1 h2
      obtain ⟨q1, q2, q3, q4⟩ := ih base (j + 1) ds _ _ hx
      refine ⟨q1, ?_, ?_, by simp [q4]⟩
      · intro s hs i hi
        rcases List.mem_cons.1 hs with rfl | hs
        · cases hi
        · exact q2 s hs i hi
      · intro t ht
        rcases List.mem_cons.1 ht with ht | ht
        · cases ht
        · exact q3 t ht
    | own e =>
      simp only [resSV] at h
      obtain ⟨x, hx, h⟩ := opt_some.1 h
      injection h with h; injection h with h1 h2; subst h1 h2
      obtain ⟨q1, q2, q3, q4⟩ := ih base (j + 1) ds _ _ hx
      refine ⟨?_, ?_, ?_, by simp [q4]⟩
      · intro i o h
        simp only [lk] at h
        cases hb : Nat.beq i (base + j) with
        | true => rw [hb] at h; simp only [cond_true] at h; injection h with h; subst h; rfl
        | false => rw [hb] at h; exact q1 i o h
      · intro s hs i hi
        rcases List.mem_cons.1 hs with rfl | hs
        · simp only [refs0, List.mem_singleton] at hi
          subst hi
          exact ⟨Obj.arr e (ds.getD j .no).toList, by simp only [lk, beq_self, cond_true]⟩
        · obtain ⟨o, ho⟩ := q2 s hs i hi
          simp only [lk]
          cases hb : Nat.beq i (base + j) with
          | true => exact ⟨_, rfl⟩
          | false => exact ⟨o, ho⟩
      · intro t ht
        rcases List.mem_cons.1 ht with ht | ht
        · cases ht
        · exact q3 t ht

def oneSV : List SV → SV | [s] => s | l => .tup l

/-- What a call leaves. -/
def RetOK (E : Env) (w : World) (M : Mem) (rs : List RM) (ds : List D) (v : Value) (w' : World) : Prop :=
  ∀ base svs os, resSV rs base 0 ds = some (svs, os) → ∃ ι M', HRel E.tt (fun _ => False) w M ι M' (fun i => lk i os) w' ∧ SVRel E.tt ι M' (oneSV svs) v
def ArgsRep (tt : TT) (M : Mem) : List PM → List Value → List D → Prop
  | [], [], [] => True
  | .val k :: ps, v :: vs, d :: ds => Rep tt M k v d ∧ ArgsRep tt M ps vs ds
  | _, _, _ => False
def CallsF (P : Program) (f : Nat) (args : Array Value) (w : World) (R : Value → World → Prop) : Prop :=
  ((callFunc f args).run P w = .ok (.enter f args) w ∧ Calls P f args w (fun | .returned v, w' => R v w' | _, _ => False)) ∨ ∃ v w', (callFunc f args).run P w = .ok (.value v) w' ∧ R v w'
def CallOK (P : Program) (E : Env) (callk : Nat → List D → R) : Prop := ∀ f sg ds r, lk f E.sigs = some sg → callk f ds = some r →
  ∀ (w : World) (M : Mem) (vs : List Value), ArgsRep E.tt M sg.params vs ds → (∀ ad v, M ad = some v → w.cell? ad = some v) → CallsF P f vs.toArray w (RetOK E w M sg.results r)

/-- What an operation leaves, in the state and in memory. -/
structure Left (E : Env) (X : Nat → Prop) (w0 : World) (Mx : Mem) (ι : Nat → Value) (M : Mem) (st s : St) (w' : World) (v : SV) (u : Value) : Prop where
  ex : ∃ ι' M', HRel E.tt X w0 Mx ι' M' s.objs w' ∧ (∀ t s1, s.slots t = some s1 → ∃ s0, st.slots t = some s0 ∧ ∀ v0, SVRel E.tt ι M s0 v0 → SVRel E.tt ι' M' s1 v0) ∧ SVRel E.tt ι' M' v u
  n : s.n = st.n
  wf : WF s
  refs : ∀ i, i ∈ refsOf v → ∃ o, s.objs i = some o

theorem refs_oneSV {svs : List SV} (h : ∀ t, .tup t ∉ svs) {i : Nat} (hi : i ∈ refsOf (oneSV svs)) : ∃ s ∈ svs, i ∈ refs0 s := by
  cases svs with
  | nil => cases hi
  | cons s r =>
    cases r with
    | nil =>
      refine ⟨s, List.mem_cons_self, ?_⟩
      cases s with
      | tup t => exact absurd List.mem_cons_self (h t)
      | _ => exact hi
    | cons s2 r => exact mem_refsL.1 hi

theorem WF.putAll {st : St} {os : List (Nat × Obj)} (hwf : WF st) (hno : ∀ i o, lk i os = some o → objRefs0 o = []) : WF { st with objs := putAll st.objs os } := by
  have hin : ∀ i o, st.objs i = some o → ∃ o', DS.putAll st.objs os i = some o' := by
    intro i o h
    rw [putAll_eq]
    cases lk i os with
    | some o' => exact ⟨o', rfl⟩
    | none => exact ⟨o, h⟩
  constructor
  · intro t s hs i hi
    obtain ⟨o, ho⟩ := hwf.slots t s hs i hi
    exact hin i o ho
  · intro j o hj i hi
    simp only [putAll_eq] at hj
    cases hl : lk j os with
    | some o' =>
      rw [hl] at hj; injection hj with hj; subst hj
      rw [hno j _ hl] at hi; cases hi
    | none =>
      rw [hl] at hj
      obtain ⟨o', ho'⟩ := hwf.cells j o hj i hi
      exact hin i o' ho'

/-- A call's end. -/
theorem ret_left {E : Env} {X : Nat → Prop} {w0 w w' : World} {Mx M : Mem} {ι : Nat → Value} {st : St} (H : HRel E.tt X w0 Mx ι M st.objs w) (hwf : WF st) {rs : List RM} {ds : List D} {v : Value} (hr : RetOK E w M rs ds v w')
    {dst : Option Nat} {u : Upd} (hu : resUpd st rs dst ds = some u) : u.ob = none ∧ Left E X w0 Mx ι M st { st with objs := putAll st.objs u.obs } w' u.v v := by
  have key : ∀ base svs os, resSV rs base 0 ds = some (svs, os) → freshAll st os = true → ∃ ι' M', HRel E.tt X w0 Mx ι' M' (putAll st.objs os) w' ∧ (∀ t s1, st.slots t = some s1 → ∃ s0, st.slots t = some s0 ∧ ∀ v0, SVRel E.tt ι M s0 v0 → SVRel E.tt ι' M' s1 v0) ∧ SVRel E.tt ι' M' (oneSV svs) v ∧
      WF { st with objs := putAll st.objs os } ∧ ∀ i, i ∈ refsOf (oneSV svs) → ∃ o, putAll st.objs os i = some o := by
    intro base svs os hx hfr
    obtain ⟨ι2, M', HR, hv⟩ := hr base svs os hx
    obtain ⟨q1, q2, q3, q4⟩ := resSV_spec rs base 0 ds svs os hx
    have hf : ∀ i o, lk i os = some o → st.objs i = none := fun i o h => freshAll_spec hfr h
    refine ⟨joinι os ι ι2, M', H.merge HR hf hwf.cells q1, ?_, ?_, hwf.putAll q1, ?_⟩
    · intro t s1 hs1
      refine ⟨s1, hs1, fun v0 h0 => h0.congr (fun i hi => ?_) HR.memx⟩
      obtain ⟨o, ho⟩ := hwf.slots t s1 hs1 i hi
      unfold joinι
      cases hl : lk i os with
      | some o' => rw [hf i o' hl] at ho; cases ho
      | none => rfl
    · refine hv.congr (fun i hi => ?_) (fun _ _ h => h)
      obtain ⟨s, hs, hi⟩ := refs_oneSV q3 hi
      obtain ⟨o, ho⟩ := q2 s hs i hi
      unfold joinι; rw [ho]
    · intro i hi
      obtain ⟨s, hs, hi⟩ := refs_oneSV q3 hi
      obtain ⟨o, ho⟩ := q2 s hs i hi
      rw [putAll_eq, ho]; exact ⟨o, rfl⟩
  have gone : allValR rs = true → Left E X w0 Mx ι M st { st with objs := putAll st.objs [] } w' .gone v := by
    intro hv
    obtain ⟨svs, hx, _, _⟩ := resSV_vals rs 0 0 ds hv
    obtain ⟨ι', M', k1, k2, k3, k4, k5⟩ := key 0 svs [] hx rfl
    exact ⟨⟨ι', M', k1, k2, trivial⟩, rfl, k4, fun i hi => by cases hi⟩
  unfold resUpd at hu
  cases dst with
  | none =>
    cases rs with
    | nil => injection hu with hu; subst hu; exact ⟨rfl, gone rfl⟩
    | cons r rs =>
      simp only at hu
      obtain ⟨x, hx, hu⟩ := opt_some.1 hu
      obtain ⟨hv, hu⟩ := cond_some.1 hu
      injection hu with hu; subst hu
      exact ⟨rfl, gone hv⟩
  | some t =>
    simp only at hu
    split at hu
    · rename_i r
      obtain ⟨x, hx, hu⟩ := opt_some.1 hu
      obtain ⟨hfr, hu⟩ := cond_some.1 hu
      split at hu
      · rename_i s hs
        injection hu with hu; subst hu
        obtain ⟨ι', M', k1, k2, k3, k4, k5⟩ := key t x.1 x.2 hx hfr
        rw [hs] at k3 k5
        exact ⟨rfl, ⟨ι', M', k1, k2, k3⟩, rfl, k4, k5⟩
      · cases hu
    · rename_i hne
      obtain ⟨x, hx, hu⟩ := opt_some.1 hu
      obtain ⟨hfr, hu⟩ := cond_some.1 hu
      injection hu with hu; subst hu
      obtain ⟨ι', M', k1, k2, k3, k4, k5⟩ := key _ x.1 x.2 hx hfr
      have hlen := (resSV_spec rs _ 0 ds x.1 x.2 hx).2.2.2
      have : oneSV x.1 = .tup x.1 := by
        cases hx1 : x.1 with
        | nil => rfl
        | cons s r =>
          cases r with
          | nil =>
            exfalso
            rw [hx1] at hlen
            cases rs with
            | nil => simp at hlen
            | cons r rs =>
              cases rs with
              | nil => exact hne r rfl
              | cons _ _ => simp at hlen
          | cons _ _ => rfl
      rw [this] at k3 k5
      exact ⟨rfl, ⟨ι', M', k1, k2, k3⟩, rfl, k4, k5⟩

end Go.Proofs.Ythempoaickahcaa.DS
