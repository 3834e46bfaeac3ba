/- Calls: what they leave behind, in the caller's state. -/
import Derived.Test.YtjofkhdnidjleabDoorDsU
set_option linter.unusedVariables false
set_option linter.unusedSimpArgs false
namespace Go.Proofs.YtjofkhdnidjleabDoor.DS

theorem SVRel0.congr {tt : TT} {ι ι' : Nat → Value} {M M' : Mem} {s : SV} {v : Value} (h : SVRel0 tt ι M s v) (hι : ∀ i, i ∈ refs0 s → ι' i = ι i) (hM : ∀ ad v, M ad = some v → M' ad = some v) : SVRel0 tt ι' M' s v := by
  cases s with
  | val k d => exact Rep.mono hM h
  | nil => exact h
  | eptr k d =>
    obtain ⟨ad, u, t, ti, h1, h2, h3, h4, h5, h6⟩ := h
    exact ⟨ad, u, t, ti, h1, h2, h3, h4, h5.mono hM, fun j c hj => hM _ _ (h6 j c hj)⟩
  | bptr i u off k =>
    obtain ⟨h1, b, h2, h3⟩ := h
    exact ⟨h1, b, by rw [hι i (by simp [refs0])]; exact h2, h3⟩
  | optr i e n off k =>
    obtain ⟨h1, b, n, cap, ei, h2, h3, h4⟩ := h
    exact ⟨h1, b, n, cap, ei, h2, by rw [hι i (by simp [refs0])]; exact h3, h4⟩
  | own i =>
    show v = ι' i ∧ ∃ a n c, ι' i = .slice a n c
    rw [hι i (by simp [refs0])]; exact h
  | tup l => exact h
  | sag _ _ l => exact h
  | selfn i =>
    rcases h with h | ⟨b, h1, h2⟩
    · exact .inl h
    · exact .inr ⟨b, by rw [hι i (by simp [refs0])]; exact h1, h2⟩
  | clo f i =>
    obtain ⟨b, h1, h2⟩ := h
    exact ⟨b, by rw [hι i (by simp [refs0])]; exact h1, h2⟩
  | gone => exact h
theorem SVRel.congr {tt : TT} {ι ι' : Nat → Value} {M M' : Mem} {s : SV} {v : Value} (h : SVRel tt ι M s v) (hι : ∀ i, i ∈ refsOf s → ι' i = ι i) (hM : ∀ ad v, M ad = some v → M' ad = some v) : SVRel tt ι' M' s v := by
  cases s with
  | tup l =>
    obtain ⟨vs, h1, h2, h3⟩ := h
    exact ⟨vs, h1, h2, fun i s x hs hx => (h3 i s x hs hx).congr (fun j hj => hι j (mem_refsL.2 ⟨s, List.mem_of_getElem? hs, hj⟩)) hM⟩
  | val k d => exact Rep.mono hM h
  | nil => exact h
  | eptr k d => exact SVRel0.congr (ι := ι) (ι' := ι') (s := .eptr k d) h (fun i hi => by cases hi) hM
  | bptr i u off k => exact SVRel0.congr (M := M) (s := .bptr i u off k) h hι hM
  | optr i e n off k => exact SVRel0.congr (M := M) (s := .optr i e n off k) h hι hM
  | own i => exact SVRel0.congr (tt := tt) (M := M) (s := .own i) h hι hM
  | selfn i => exact SVRel0.congr (tt := tt) (M := M) (s := .selfn i) h hι hM
  | clo f i => exact SVRel0.congr (tt := tt) (M := M) (s := .clo f i) h hι hM
  | sag t ks l =>
    obtain ⟨ti, vs, h1, h2, h3, h4, h5, h6, h7⟩ := h
    exact ⟨ti, vs, h1, h2, h3, h4, h5, h6, fun i s x hs hx => (h7 i s x hs hx).congr (fun j hj => hι j (mem_refsL.2 ⟨s, List.mem_of_getElem? hs, hj⟩)) hM⟩
  | gone => trivial
theorem ArrRel.congr {tt : TT} {M M' : Mem} {w w' : World} {ei : TI} {v : Value} {es : List D} (h : ArrRel tt M w ei v es) (hM : ∀ ad v, M ad = some v → M' ad = some v) (hh : ∀ b, blockOf v = some b → w'.heap[b]? = w.heap[b]?) : ArrRel tt M' w' ei v es := by
  rcases h with h | ⟨b, cap, cur, t, fr, vs, h1, h2, h3, h4, h5, h6, h7⟩
  · exact .inl h
  · refine .inr ⟨b, cap, cur, t, fr, vs, h1, by rw [hh b (by rw [h1]; rfl)]; exact h2, h3, h4, h5, h6, fun i hi => ?_⟩
    obtain ⟨q1, q2, q3⟩ := h7 i hi
    exact ⟨q1, q2, q3.mono hM⟩
theorem ObjRel.congr {tt : TT} {ι ι' : Nat → Value} {M M' : Mem} {w w' : World} {i : Nat} {o : Obj} (h : ObjRel tt ι M w i o) (hi : ι' i = ι i) (hι : ∀ j, j ∈ objRefs0 o → ι' j = ι j) (hM : ∀ ad v, M ad = some v → M' ad = some v)
    (hh : ∀ b, blockOf (ι i) = some b → w'.heap[b]? = w.heap[b]?) : ObjRel tt ι' M' w' i o := by
  cases o with
  | arr e es =>
    obtain ⟨ei, h1, h2, h3⟩ := h
    exact ⟨ei, h1, h2, by rw [hi]; exact h3.congr hM hh⟩
  | box t c =>
    obtain ⟨ti, b, cs, h1, h2, h3, h4⟩ := h
    refine ⟨ti, b, cs, h1, by rw [hi]; exact h2, by rw [hh b (by rw [h2]; rfl)]; exact h3, ?_⟩
    cases c with
    | whole d => exact ⟨h4.1, h4.2.mono hM⟩
    | cells l =>
      obtain ⟨h5, h6, h7⟩ := h4
      exact ⟨h5, h6, fun j s c hs hc => (h7 j s c hs hc).congr (fun k hk => hι k (mem_refsL.2 ⟨s, List.mem_of_getElem? hs, hk⟩)) hM⟩

theorem putAll_eq (f : Nat → Option Obj) (os : List (Nat × Obj)) (i : Nat) : putAll f os i = match lk i os with | some o => some o | none => f i := by
  induction os with
  | nil => rfl
  | cons p r ih =>
    obtain ⟨id, o⟩ := p
    simp only [putAll, put, lk]
    cases h : Nat.beq i id with
    | true => rfl
    | false => simp only [cond_false]; exact ih
theorem freshAll_spec {st : St} {os : List (Nat × Obj)} (h : freshAll st os = true) {i : Nat} {o : Obj} (hi : lk i os = some o) : st.objs i = none := by
  induction os with
  | nil => cases hi
  | cons p r ih =>
    obtain ⟨id, o'⟩ := p
    simp only [freshAll] at h
    cases hf : fresh st id with
    | false => rw [hf] at h; cases h
    | true =>
      rw [hf] at h
      simp only [lk] at hi
      cases hb : Nat.beq i id with
      | true =>
        have := beq_iff.1 hb; subst this
        unfold fresh at hf
        split at hf
        · cases hf
        · assumption
      | false => rw [hb] at hi; exact ih h hi

def joinι (os : List (Nat × Obj)) (ι ι2 : Nat → Value) (i : Nat) : Value := match lk i os with | some _ => ι2 i | none => ι i

/-- The caller's objects and the callee's. -/
theorem HRel.merge {tt : TT} {X : Nat → Prop} {w0 w w' : World} {Mx M M' : Mem} {ι ι2 : Nat → Value} {objs : Nat → Option Obj} {os : List (Nat × Obj)} (H : HRel tt X w0 Mx ι M objs w)
    (R : HRel tt (fun _ => False) w M ι2 M' (fun i => lk i os) w') (hf : ∀ i o, lk i os = some o → objs i = none) (hcells : ∀ j o, objs j = some o → ∀ i, i ∈ objRefs0 o → ∃ o', objs i = some o')
    (hno : ∀ i o, lk i os = some o → objRefs0 o = []) : HRel tt X w0 Mx (joinι os ι ι2) M' (putAll objs os) w' := by
  have hcase : ∀ i o, putAll objs os i = some o → (lk i os = some o ∧ joinι os ι ι2 i = ι2 i) ∨ (lk i os = none ∧ objs i = some o ∧ joinι os ι ι2 i = ι i) := by
    intro i o h
    rw [putAll_eq] at h
    unfold joinι
    cases hl : lk i os with
    | some o' => rw [hl] at h; injection h with h; subst h; exact .inl ⟨rfl, rfl⟩
    | none => rw [hl] at h; exact .inr ⟨rfl, h, rfl⟩
  have hold : ∀ i o, objs i = some o → joinι os ι ι2 i = ι i := by
    intro i o h
    unfold joinι
    cases hl : lk i os with
    | some o' => rw [hf i o' hl] at h; cases h
    | none => rfl
  have hkeep : ∀ b, b < w.heap.size → w'.heap[b]? = w.heap[b]? := fun b hb => R.keep b hb (fun h => h)
  have hge : ∀ i o b, lk i os = some o → blockOf (ι2 i) = some b → w.heap.size ≤ b := by
    intro i o b h1 h2
    rcases (R.own i o b h1 h2).1 with h | h
    · exact h
    · exact h.elim
  refine ⟨?_, ?_, ?_, R.mem, fun ad v h => R.memx ad v (H.memx ad v h), ?_, R.os.trans H.os, R.tape.trans H.tape, R.output.trans H.output, Nat.le_trans H.size R.size, ?_⟩
  · intro i o ho
    rcases hcase i o ho with ⟨h1, h2⟩ | ⟨_, h1, h2⟩
    · exact (R.obj i o h1).congr h2 (fun j hj => by rw [hno i o h1] at hj; cases hj) (fun _ _ h => h) (fun _ _ => rfl)
    · refine (H.obj i o h1).congr h2 (fun j hj => ?_) R.memx (fun b hb => hkeep b ((H.obj i o h1).block_lt hb))
      obtain ⟨o', ho'⟩ := hcells i o h1 j hj
      exact hold j o' ho'
  · intro i j oi oj b hi hj hij hbi hbj
    rcases hcase i oi hi with ⟨h1, h2⟩ | ⟨_, h1, h2⟩ <;> rcases hcase j oj hj with ⟨h3, h4⟩ | ⟨_, h3, h4⟩
    · rw [h2] at hbi; rw [h4] at hbj; exact R.disj i j oi oj b h1 h3 hij hbi hbj
    · rw [h2] at hbi; rw [h4] at hbj
      have := hge i oi b h1 hbi
      have := (H.obj j oj h3).block_lt hbj
      omega
    · rw [h2] at hbi; rw [h4] at hbj
      have := hge j oj b h3 hbj
      have := (H.obj i oi h1).block_lt hbi
      omega
    · rw [h2] at hbi; rw [h4] at hbj; exact H.disj i j oi oj b h1 h3 hij hbi hbj
  · intro i o b hi hb
    rcases hcase i o hi with ⟨h1, h2⟩ | ⟨_, h1, h2⟩
    · rw [h2] at hb
      obtain ⟨_, q2⟩ := R.own i o b h1 hb
      exact ⟨.inl (Nat.le_trans H.size (hge i o b h1 hb)), q2⟩
    · rw [h2] at hb
      obtain ⟨q1, q2⟩ := H.own i o b h1 hb
      refine ⟨q1, fun off sp => ?_⟩
      have hlt := (H.obj i o h1).block_lt hb
      rw [R.memB ⟨b, off, sp⟩ hlt (fun h => h)]
      exact q2 off sp
  · intro ad hb hX
    rw [R.memB ad (Nat.lt_of_lt_of_le hb H.size) (fun h => h)]
    exact H.memB ad hb hX
  · intro b hb hX
    rw [hkeep b (Nat.lt_of_lt_of_le hb H.size)]
    exact H.keep b hb hX

/-- Results that lie in memory. -/
theorem resSV_spec : ∀ (rs : List RM) (base j : Nat) (ds : List D) svs os, resSV rs base j ds = some (svs, os) →
    (∀ i o, lk i os = some o → objRefs0 o = []) ∧ (∀ s ∈ svs, ∀ i, i ∈ refs0 s → ∃ o, lk i os = some o) ∧ (∀ t, .tup t ∉ svs) ∧ svs.length = rs.length ∧ ∀ t ks l, .sag t ks l ∉ svs := by
  intro rs
  induction rs with
  | nil =>
    intro base j ds svs os h
    injection h with h; injection h with h1 h2; subst h1 h2
    exact ⟨fun i o h => (by cases h), fun s h => (by cases h), fun t h => (by cases h), rfl, fun t ks l h => by cases h⟩
  | cons r rs ih =>
    intro base j ds svs os h
    cases r with
    | val k =>
      simp only [resSV] at h
      obtain ⟨x, hx, h⟩ := opt_some.1 h
      injection h with h; injection h with h1 h2; subst h1 h2
      obtain ⟨q1, q2, q3, q4, q5⟩ := ih base (j + 1) ds _ _ hx
      refine ⟨q1, ?_, ?_, by simp [q4], fun t ks l h => by simp at h; exact q5 t ks l h⟩
      · intro s hs i hi
        rcases List.mem_cons.1 hs with rfl | hs
        · cases hi
        · exact q2 s hs i hi
      · intro t ht
        rcases List.mem_cons.1 ht with ht | ht
        · cases ht
        · exact q3 t ht
    | any =>
      simp only [resSV] at h
      obtain ⟨x, hx, h⟩ := opt_some.1 h
      injection h with h; injection h with h1 h2; subst h1 h2
      obtain ⟨q1, q2, q3, q4, q5⟩ := ih base (j + 1) ds _ _ hx
      refine ⟨q1, ?_, ?_, by simp [q4], fun t ks l h => by simp at h; exact q5 t ks l h⟩
      · intro s hs i hi
        rcases List.mem_cons.1 hs with rfl | hs
        · cases hi
        · exact q2 s hs i hi
      · intro t ht
        rcases List.mem_cons.1 ht with ht | ht
        · cases ht
        · exact q3 t ht
    | own e =>
      simp only [resSV] at h
      obtain ⟨x, hx, h⟩ := opt_some.1 h
      injection h with h; injection h with h1 h2; subst h1 h2
      obtain ⟨q1, q2, q3, q4, q5⟩ := ih base (j + 1) ds _ _ hx
      refine ⟨?_, ?_, ?_, by simp [q4], fun t ks l h => by simp at h; exact q5 t ks l h⟩
      · intro i o h
        simp only [lk] at h
        cases hb : Nat.beq i (base + j) with
        | true => rw [hb] at h; simp only [cond_true] at h; injection h with h; subst h; rfl
        | false => rw [hb] at h; exact q1 i o h
      · intro s hs i hi
        rcases List.mem_cons.1 hs with rfl | hs
        · simp only [refs0, List.mem_singleton] at hi
          subst hi
          exact ⟨Obj.arr e (ds.getD j .no).toList, by simp only [lk, beq_self, cond_true]⟩
        · obtain ⟨o, ho⟩ := q2 s hs i hi
          simp only [lk]
          cases hb : Nat.beq i (base + j) with
          | true => exact ⟨_, rfl⟩
          | false => exact ⟨o, ho⟩
      · intro t ht
        rcases List.mem_cons.1 ht with ht | ht
        · cases ht
        · exact q3 t ht

abbrev oneSV := oneV

/-- What a call leaves to which nothing was handed over. -/
def RetV (E : Env) (w : World) (M : Mem) (rs : List RM) (ds : List D) (v : Value) (w' : World) : Prop :=
  ∀ base svs os, resSV rs base 0 ds = some (svs, os) → ∃ ι M', HRel E.tt (fun _ => False) w M ι M' (fun i => lk i os) w' ∧ SVRel E.tt ι M' (oneSV svs) v
/-- The boxes among the parameters, under the caller's numbers. -/
def boxesP (bid : Nat → Nat) : Nat → List PM → List (Nat × TypeId × List CK)
  | _, [] => []
  | i, .box t cs :: r => (bid i, t, cs) :: boxesP bid (i + 1) r
  | i, _ :: r => boxesP bid (i + 1) r
/-- What a call leaves. -/
def RetOK (E : Env) (X : Nat → Prop) (w : World) (M : Mem) (ps : List PM) (rs : List RM) (vs : List Value) (ds : List D) (v : Value) (w' : World) : Prop :=
  ∀ base (bid : Nat → Nat) svs os, resSV rs base 0 ds = some (svs, os) → nodupL (keysN (os ++ boxObjs (boxesP bid 0 ps) rs.length ds)) = true →
    ∃ ι M', HRel E.tt X w M ι M' (fun i => lk i (os ++ boxObjs (boxesP bid 0 ps) rs.length ds)) w' ∧ SVRel E.tt ι M' (oneSV svs) v ∧ (∀ i, i ∈ refsOf (oneSV svs) → ∃ o, lk i os = some o) ∧ ∀ p t cs, ps[p]? = some (.box t cs) → vs[p]? = some (ι (bid p))
def ArgsRep (tt : TT) (M : Mem) : List PM → List Value → List D → Prop
  | [], [], [] => True
  | .val k :: ps, v :: vs, d :: ds => Rep tt M k v d ∧ ArgsRep tt M ps vs ds
  | .ref k :: ps, v :: vs, d :: ds => SVRel0 tt (fun _ => undef) M (.eptr k d) v ∧ ArgsRep tt M ps vs ds
  | _, _, _ => False
/-- Arguments: what the callee begins with. -/
def ArgsOK (E : Env) (X : Nat → Prop) (w : World) (M : Mem) (ps : List PM) (vs : List Value) (ds : List D) : Prop :=
  vs.length = ps.length ∧ ∃ sl os ι, paramSt ps 0 ds = some (sl, os) ∧ HRel E.tt X w M ι M (fun i => lk i os) w ∧ (∀ t s, lk t sl = some s → (∃ v, vs[t]? = some v ∧ SVRel E.tt ι M s v) ∧ ∀ i, i ∈ refsOf s → ∃ o, lk i os = some o) ∧
    ∀ j o, lk j os = some o → ∀ i, i ∈ objRefs0 o → ∃ o', lk i os = some o'
def CallsF (P : Program) (f : Nat) (args : Array Value) (w : World) (R : Value → World → Prop) : Prop :=
  ((callFunc f args).run P w = .ok (.enter f args) w ∧ Calls P f args w (fun | .returned v, w' => R v w' | _, _ => False)) ∨ ∃ v w', (callFunc f args).run P w = .ok (.value v) w' ∧ R v w'
theorem CallsF.mono {P : Program} {f : Nat} {args : Array Value} {w : World} {R R' : Value → World → Prop} (h : CallsF P f args w R) (hR : ∀ v w', R v w' → R' v w') : CallsF P f args w R' := by
  rcases h with ⟨h1, h2⟩ | ⟨v, w', h1, h2⟩
  · refine .inl ⟨h1, h2.mono fun e w' he => ?_⟩
    cases e with
    | returned v => exact hR v w' he
    | panicked c => exact he
    | outgrown => exact he
  · exact .inr ⟨v, w', h1, hR v w' h2⟩
/-- The first blocks are as they were when the law was called. -/
structure Same (W0 w : World) : Prop where
  size : W0.heap.size ≤ w.heap.size
  os : w.os = W0.os
  tape : w.tape = W0.tape
  output : w.output = W0.output
  heap : ∀ b, b < W0.heap.size → w.heap[b]? = W0.heap[b]?
theorem Same.refl (w : World) : Same w w := ⟨Nat.le_refl _, rfl, rfl, rfl, fun _ _ => rfl⟩
theorem HRel.same {tt : TT} {X : Nat → Prop} {W0 w0 w : World} {Mx M : Mem} {ι : Nat → Value} {objs : Nat → Option Obj} (H : HRel tt X w0 Mx ι M objs w) (hS : Same W0 w0) (hX : ∀ b, X b → W0.heap.size ≤ b) : Same W0 w :=
  ⟨Nat.le_trans hS.size H.size, H.os.trans hS.os, H.tape.trans hS.tape, H.output.trans hS.output, fun b hb => by
    rw [H.keep b (Nat.lt_of_lt_of_le hb hS.size) (fun h => by have := hX b h; omega), hS.heap b hb]⟩
def CallOK (P : Program) (E : Env) (W0 : World) (callk : Nat → List D → R) : Prop := ∀ f sg ds r, lk f E.sigs = some sg → callk f ds = some r →
  ∀ (w : World) (M : Mem) (vs : List Value) (X : Nat → Prop), Same W0 w → (∀ b, X b → W0.heap.size ≤ b) → ArgsOK E X w M sg.params vs ds → CallsF P f vs.toArray w (RetOK E X w M sg.outs sg.results vs r)

theorem HRel.start {tt : TT} {X : Nat → Prop} {w : World} {M : Mem} {ι : Nat → Value} (hM : ∀ ad v, M ad = some v → w.cell? ad = some v) : HRel tt X w M ι M (fun _ => none) w :=
  ⟨fun id o h => (by cases h), fun id id2 o o2 b h => (by cases h), fun id o b h => (by cases h), hM, fun _ _ h => h, fun _ _ _ => rfl, rfl, rfl, rfl, Nat.le_refl _, fun _ _ _ => rfl⟩
theorem argsRep_len {tt : TT} {M : Mem} : ∀ {ps : List PM} {vs : List Value} {ds : List D}, ArgsRep tt M ps vs ds → vs.length = ps.length := by
  intro ps
  induction ps with
  | nil =>
    intro vs ds h
    cases vs with
    | nil => rfl
    | cons _ _ => cases ds <;> exact h.elim
  | cons p ps ih =>
    intro vs ds h
    cases p with
    | val k =>
      cases vs with
      | nil => cases ds <;> exact h.elim
      | cons v vs =>
        cases ds with
        | nil => exact h.elim
        | cons d ds => simp [ih h.2]
    | ref k =>
      cases vs with
      | nil => cases ds <;> exact h.elim
      | cons v vs =>
        cases ds with
        | nil => exact h.elim
        | cons d ds => simp [ih h.2]
    | _ => cases vs <;> cases ds <;> exact h.elim
theorem param_vals {tt : TT} {M : Mem} {ι : Nat → Value} : ∀ (ps : List PM) (i : Nat) (vs : List Value) (ds : List D), ArgsRep tt M ps vs ds →
    ∃ sl, paramSt ps i ds = some (sl, []) ∧ ∀ t s, lk t sl = some s → i ≤ t ∧ (∃ v, vs[t - i]? = some v ∧ SVRel tt ι M s v) ∧ refsOf s = [] := by
  intro ps
  induction ps with
  | nil =>
    intro i vs ds h
    cases vs with
    | nil =>
      cases ds with
      | nil => exact ⟨[], rfl, fun t s h => by cases h⟩
      | cons _ _ => exact h.elim
    | cons _ _ => cases ds <;> exact h.elim
  | cons p ps ih =>
    intro i vs ds h
    cases p with
    | val k =>
      cases vs with
      | nil => cases ds <;> exact h.elim
      | cons v vs =>
        cases ds with
        | nil => exact h.elim
        | cons d ds =>
          obtain ⟨h1, h2⟩ := h
          obtain ⟨sl, q1, q2⟩ := ih (i + 1) vs ds h2
          refine ⟨(i, .val k (canon k d)) :: sl, by simp only [paramSt, q1, opt], fun t s h => ?_⟩
          simp only [lk] at h
          cases hb : Nat.beq t i with
          | true =>
            rw [hb] at h; injection h with h; subst h
            have := beq_iff.1 hb; subst this
            refine ⟨Nat.le_refl _, ⟨v, by simp, ?_⟩, rfl⟩
            show Rep tt M k v (canon k d)
            rw [h1.canon]; exact h1
          | false =>
            rw [hb] at h
            obtain ⟨r1, ⟨v', r2, r3⟩, r4⟩ := q2 t s h
            refine ⟨by omega, ⟨v', ?_, r3⟩, r4⟩
            rw [show t - i = (t - (i + 1)) + 1 by omega, List.getElem?_cons_succ]; exact r2
    | ref k =>
      cases vs with
      | nil => cases ds <;> exact h.elim
      | cons v vs =>
        cases ds with
        | nil => exact h.elim
        | cons d ds =>
          obtain ⟨h1, h2⟩ := h
          obtain ⟨sl, q1, q2⟩ := ih (i + 1) vs ds h2
          refine ⟨(i, .eptr k (canon k d)) :: sl, by simp only [paramSt, q1, opt], fun t s h => ?_⟩
          simp only [lk] at h
          cases hb : Nat.beq t i with
          | true =>
            rw [hb] at h; injection h with h; subst h
            have := beq_iff.1 hb; subst this
            refine ⟨Nat.le_refl _, ⟨v, by simp, ?_⟩, rfl⟩
            obtain ⟨ad, u, t', ti, g1, g2, g3, g4, g5, g6⟩ := h1
            exact ⟨ad, u, t', ti, g1, g2, g3, g4, by rw [g5.canon]; exact g5, g6⟩
          | false =>
            rw [hb] at h
            obtain ⟨r1, ⟨v', r2, r3⟩, r4⟩ := q2 t s h
            refine ⟨by omega, ⟨v', ?_, r3⟩, r4⟩
            rw [show t - i = (t - (i + 1)) + 1 by omega, List.getElem?_cons_succ]; exact r2
    | _ => cases vs <;> cases ds <;> exact h.elim
theorem argsOK_of {E : Env} {X : Nat → Prop} {w : World} {M : Mem} {ps : List PM} {vs : List Value} {ds : List D} (h : ArgsRep E.tt M ps vs ds) (hM : ∀ ad v, M ad = some v → w.cell? ad = some v) : ArgsOK E X w M ps vs ds := by
  obtain ⟨sl, h1, h2⟩ := param_vals (ι := fun _ => undef) ps 0 vs ds h
  refine ⟨argsRep_len h, sl, [], fun _ => undef, h1, HRel.start hM, fun t s ht => ?_, fun j o h => by cases h⟩
  obtain ⟨_, ⟨v, q1, q2⟩, q3⟩ := h2 t s ht
  exact ⟨⟨v, by simpa using q1, q2⟩, fun i hi => by rw [q3] at hi; cases hi⟩
theorem resSV_keys : ∀ (rs : List RM) (base j : Nat) (ds : List D) svs os, resSV rs base j ds = some (svs, os) → nodupL (keysN os) = true ∧ ∀ k ∈ keysN os, base + j ≤ k := by
  intro rs
  induction rs with
  | nil => intro base j ds svs os h; injection h with h; injection h with h1 h2; subst h1 h2; exact ⟨rfl, fun k hk => by cases hk⟩
  | cons r rs ih =>
    intro base j ds svs os h
    cases r with
    | val k =>
      obtain ⟨x, hx, h⟩ := opt_some.1 h
      injection h with h; injection h with h1 h2; subst h1 h2
      obtain ⟨q1, q2⟩ := ih base (j + 1) ds _ _ hx
      exact ⟨q1, fun k hk => by have := q2 k hk; omega⟩
    | any =>
      obtain ⟨x, hx, h⟩ := opt_some.1 h
      injection h with h; injection h with h1 h2; subst h1 h2
      obtain ⟨q1, q2⟩ := ih base (j + 1) ds _ _ hx
      exact ⟨q1, fun k hk => by have := q2 k hk; omega⟩
    | own e =>
      obtain ⟨x, hx, h⟩ := opt_some.1 h
      injection h with h; injection h with h1 h2; subst h1 h2
      obtain ⟨q1, q2⟩ := ih base (j + 1) ds _ _ hx
      refine ⟨?_, fun k hk => ?_⟩
      · simp only [keysN, nodupL]
        cases hm : memN (base + j) (keysN x.2) with
        | true => have := q2 _ (memN_iff.1 hm); omega
        | false => exact q1
      · rcases List.mem_cons.1 hk with rfl | hk
        · exact Nat.le_refl _
        · have := q2 k hk; omega
theorem boxesP_vals : ∀ (ps : List PM) (bid : Nat → Nat) (i : Nat), allValP ps = true → boxesP bid i ps = [] := by
  intro ps
  induction ps with
  | nil => intro _ _ _; rfl
  | cons p r ih =>
    intro bid i h
    cases p with
    | val k => exact ih bid (i + 1) h
    | _ => cases h
def noBoxP : List PM → Bool
  | [] => true
  | .box _ _ :: _ => false
  | _ :: r => noBoxP r
theorem boxesP_no : ∀ (ps : List PM) (bid : Nat → Nat) (i : Nat), noBoxP ps = true → boxesP bid i ps = [] := by
  intro ps
  induction ps with
  | nil => intro _ _ _; rfl
  | cons p r ih =>
    intro bid i h
    cases p with
    | box _ _ => cases h
    | _ => exact ih bid (i + 1) h
theorem noBox_of_val : ∀ {ps : List PM}, allValP ps = true → noBoxP ps = true := by
  intro ps
  induction ps with
  | nil => intro _; rfl
  | cons p r ih =>
    intro h
    cases p with
    | val k => exact ih h
    | _ => cases h
theorem noBox_outs {sg : Sig} (h : noBoxP sg.params = true) : noBoxP sg.outs = true := by
  unfold Sig.outs
  cases sg.gone with
  | true => rfl
  | false => exact h
theorem ret_vals {E : Env} {w : World} {M : Mem} {ps : List PM} {rs : List RM} {vs : List Value} {ds : List D} {v : Value} {w' : World} (hp : noBoxP ps = true) (h : RetOK E (fun _ => False) w M ps rs vs ds v w') : RetV E w M rs ds v w' := by
  intro base svs os hr
  have hb := boxesP_no ps (fun _ => 0) 0 hp
  obtain ⟨ι, M', h1, h2, _⟩ := h base (fun _ => 0) svs os hr (by rw [hb]; simp only [boxObjs, List.append_nil]; exact (resSV_keys rs base 0 ds svs os hr).1)
  rw [hb] at h1
  simp only [boxObjs, List.append_nil] at h1
  exact ⟨ι, M', h1, h2⟩
/-- What is flat hangs on no memory. -/
theorem Rep.flat {tt : TT} {M M' : Mem} {k : KT} {v : Value} {d : D} (hk : flatK k = true) (h : Rep tt M k v d) : Rep tt M' k v d := by
  cases h with
  | bool b => exact .bool b
  | int k n h => exact .int k n h
  | str s h => exact .str s h
  | _ => cases hk
theorem ret_flat {E : Env} {w : World} {M M1 : Mem} {rs : List RM} {ds : List D} {v : Value} {w' : World} (hf : flatR rs = true) (hM : ∀ ad v, M ad = some v → M1 ad = some v) (hw : ∀ ad v, M1 ad = some v → w.cell? ad = some v) (h : RetV E w M1 rs ds v w') : RetV E w M rs ds v w' := by
  intro base svs os hr
  obtain ⟨ι, M', H, hv⟩ := h base svs os hr
  have key : ∀ (rs : List RM) (j : Nat) svs os, flatR rs = true → resSV rs base j ds = some (svs, os) → os = [] ∧ ∀ s ∈ svs, ∃ k d, s = .val k d ∧ flatK k = true := by
    intro rs
    induction rs with
    | nil => intro j svs os _ h; injection h with h; injection h with h1 h2; subst h1 h2; exact ⟨rfl, fun s h => by cases h⟩
    | cons r rs ih =>
      intro j svs os hf h
      cases r with
      | own e => cases hf
      | any => cases hf
      | val k =>
        simp only [flatR, Bool.and_eq_true] at hf
        obtain ⟨x, hx, h⟩ := opt_some.1 h
        injection h with h; injection h with h1 h2; subst h1 h2
        obtain ⟨q1, q2⟩ := ih (j + 1) _ _ hf.2 hx
        refine ⟨q1, fun s hs => ?_⟩
        rcases List.mem_cons.1 hs with rfl | hs
        · exact ⟨k, _, rfl, hf.1⟩
        · exact q2 s hs
  obtain ⟨k1, k2⟩ := key rs 0 svs os hf hr
  subst k1
  refine ⟨ι, M, ⟨fun id o h => (by cases h), fun id id2 o o2 b h => (by cases h), fun id o b h => (by cases h), fun ad v h => H.mem ad v (H.memx ad v (hM ad v h)), fun _ _ h => h, fun _ _ _ => rfl, H.os, H.tape, H.output, H.size, H.keep⟩, ?_⟩
  cases svs with
  | nil =>
    obtain ⟨vs, h1, h2, h3⟩ := hv
    exact ⟨vs, h1, h2, fun i s x hs => by simp at hs⟩
  | cons s r =>
    obtain ⟨k, d, rfl, hk⟩ := k2 s List.mem_cons_self
    cases r with
    | nil => exact Rep.flat hk hv
    | cons s2 r =>
      obtain ⟨vs, h1, h2, h3⟩ := hv
      refine ⟨vs, h1, h2, fun i s x hs hx => ?_⟩
      obtain ⟨k', d', e, hk'⟩ := k2 s (List.mem_of_getElem? hs)
      subst e
      exact Rep.flat hk' (h3 i _ x hs hx)

/-- What an operation leaves, in the state and in memory. -/
structure Left (E : Env) (X : Nat → Prop) (w0 : World) (Mx : Mem) (ι : Nat → Value) (M : Mem) (st s : St) (w' : World) (v : SV) (u : Value) : Prop where
  ex : ∃ ι' M', HRel E.tt X w0 Mx ι' M' s.objs w' ∧ (∀ t s1, s.slots t = some s1 → ∃ s0, st.slots t = some s0 ∧ ∀ v0, SVRel E.tt ι M s0 v0 → SVRel E.tt ι' M' s1 v0) ∧ SVRel E.tt ι' M' v u
  n : s.n = st.n
  wf : WF s
  refs : ∀ i, i ∈ refsOf v → ∃ o, s.objs i = some o

theorem refs_oneSV {svs : List SV} (h : ∀ t, .tup t ∉ svs) (h2 : ∀ t ks l, .sag t ks l ∉ svs) {i : Nat} (hi : i ∈ refsOf (oneSV svs)) : ∃ s ∈ svs, i ∈ refs0 s := by
  cases svs with
  | nil => cases hi
  | cons s r =>
    cases r with
    | nil =>
      refine ⟨s, List.mem_cons_self, ?_⟩
      cases s with
      | tup t => exact absurd List.mem_cons_self (h t)
      | sag t ks l => exact absurd List.mem_cons_self (h2 t ks l)
      | _ => exact hi
    | cons s2 r => exact mem_refsL.1 hi

theorem WF.putAll {st : St} {os : List (Nat × Obj)} (hwf : WF st) (hno : ∀ i o, lk i os = some o → objRefs0 o = []) : WF { st with objs := putAll st.objs os } := by
  have hin : ∀ i o, st.objs i = some o → ∃ o', DS.putAll st.objs os i = some o' := by
    intro i o h
    rw [putAll_eq]
    cases lk i os with
    | some o' => exact ⟨o', rfl⟩
    | none => exact ⟨o, h⟩
  constructor
  · intro t s hs i hi
    obtain ⟨o, ho⟩ := hwf.slots t s hs i hi
    exact hin i o ho
  · intro j o hj i hi
    simp only [putAll_eq] at hj
    cases hl : lk j os with
    | some o' =>
      rw [hl] at hj; injection hj with hj; subst hj
      rw [hno j _ hl] at hi; cases hi
    | none =>
      rw [hl] at hj
      obtain ⟨o', ho'⟩ := hwf.cells j o hj i hi
      exact hin i o' ho'

/-- A call's end. -/
theorem ret_left {E : Env} {X : Nat → Prop} {w0 w w' : World} {Mx M : Mem} {ι : Nat → Value} {st : St} (H : HRel E.tt X w0 Mx ι M st.objs w) (hwf : WF st) {rs : List RM} {ds : List D} {v : Value} (hr : RetV E w M rs ds v w')
    {dst : Option Nat} {u : Upd} (hu : resUpd st rs dst ds = some u) : u.ob = none ∧ Left E X w0 Mx ι M st { st with objs := putAll st.objs u.obs } w' u.v v := by
  have key : ∀ base svs os, resSV rs base 0 ds = some (svs, os) → freshAll st os = true → ∃ ι' M', HRel E.tt X w0 Mx ι' M' (putAll st.objs os) w' ∧ (∀ t s1, st.slots t = some s1 → ∃ s0, st.slots t = some s0 ∧ ∀ v0, SVRel E.tt ι M s0 v0 → SVRel E.tt ι' M' s1 v0) ∧ SVRel E.tt ι' M' (oneSV svs) v ∧
      WF { st with objs := putAll st.objs os } ∧ ∀ i, i ∈ refsOf (oneSV svs) → ∃ o, putAll st.objs os i = some o := by
    intro base svs os hx hfr
    obtain ⟨ι2, M', HR, hv⟩ := hr base svs os hx
    obtain ⟨q1, q2, q3, q4, q5⟩ := resSV_spec rs base 0 ds svs os hx
    have hf : ∀ i o, lk i os = some o → st.objs i = none := fun i o h => freshAll_spec hfr h
    refine ⟨joinι os ι ι2, M', H.merge HR hf hwf.cells q1, ?_, ?_, hwf.putAll q1, ?_⟩
    · intro t s1 hs1
      refine ⟨s1, hs1, fun v0 h0 => h0.congr (fun i hi => ?_) HR.memx⟩
      obtain ⟨o, ho⟩ := hwf.slots t s1 hs1 i hi
      unfold joinι
      cases hl : lk i os with
      | some o' => rw [hf i o' hl] at ho; cases ho
      | none => rfl
    · refine hv.congr (fun i hi => ?_) (fun _ _ h => h)
      obtain ⟨s, hs, hi⟩ := refs_oneSV q3 q5 hi
      obtain ⟨o, ho⟩ := q2 s hs i hi
      unfold joinι; rw [ho]
    · intro i hi
      obtain ⟨s, hs, hi⟩ := refs_oneSV q3 q5 hi
      obtain ⟨o, ho⟩ := q2 s hs i hi
      rw [putAll_eq, ho]; exact ⟨o, rfl⟩
  have gone : allValR rs = true → Left E X w0 Mx ι M st { st with objs := putAll st.objs [] } w' .gone v := by
    intro hv
    obtain ⟨svs, hx, _, _⟩ := resSV_vals rs 0 0 ds hv
    obtain ⟨ι', M', k1, k2, k3, k4, k5⟩ := key 0 svs [] hx rfl
    exact ⟨⟨ι', M', k1, k2, trivial⟩, rfl, k4, fun i hi => by cases hi⟩
  unfold resUpd at hu
  cases dst with
  | none =>
    cases rs with
    | nil => injection hu with hu; subst hu; exact ⟨rfl, gone rfl⟩
    | cons r rs =>
      simp only at hu
      obtain ⟨x, hx, hu⟩ := opt_some.1 hu
      obtain ⟨hv, hu⟩ := cond_some.1 hu
      injection hu with hu; subst hu
      exact ⟨rfl, gone hv⟩
  | some t =>
    simp only at hu
    split at hu
    · rename_i r
      obtain ⟨x, hx, hu⟩ := opt_some.1 hu
      obtain ⟨hfr, hu⟩ := cond_some.1 hu
      split at hu
      · rename_i s hs
        injection hu with hu; subst hu
        obtain ⟨ι', M', k1, k2, k3, k4, k5⟩ := key t x.1 x.2 hx hfr
        rw [hs] at k3 k5
        exact ⟨rfl, ⟨ι', M', k1, k2, k3⟩, rfl, k4, k5⟩
      · cases hu
    · rename_i hne
      obtain ⟨x, hx, hu⟩ := opt_some.1 hu
      obtain ⟨hfr, hu⟩ := cond_some.1 hu
      injection hu with hu; subst hu
      obtain ⟨ι', M', k1, k2, k3, k4, k5⟩ := key _ x.1 x.2 hx hfr
      have hlen := (resSV_spec rs _ 0 ds x.1 x.2 hx).2.2.2.1
      have : oneSV x.1 = .tup x.1 := by
        cases hx1 : x.1 with
        | nil => rfl
        | cons s r =>
          cases r with
          | nil =>
            exfalso
            rw [hx1] at hlen
            cases rs with
            | nil => simp at hlen
            | cons r rs =>
              cases rs with
              | nil => exact hne r rfl
              | cons _ _ => simp at hlen
          | cons _ _ => rfl
      rw [this] at k3 k5
      exact ⟨rfl, ⟨ι', M', k1, k2, k3⟩, rfl, k4, k5⟩

end Go.Proofs.YtjofkhdnidjleabDoor.DS
