/- Boxes and rows that are handed over: the call. -/
import Derived.Test.YtjofkhdnidjleabDoorDuC
set_option linter.unusedVariables false
set_option linter.unusedSimpArgs false
namespace Go.Proofs.YtjofkhdnidjleabDoor.DS

theorem boxObjs_there : ∀ (boxes : List (Nat × TypeId × List CK)) (n : Nat) (ds : List D) (i : Nat), i ∈ boxIds boxes → ∃ o, lk i (boxObjs boxes n ds) = some o := by
  intro boxes
  induction boxes with
  | nil => intro n ds i h; cases h
  | cons x r ih =>
    obtain ⟨j, t, cs⟩ := x
    intro n ds i h
    simp only [boxObjs, lk]
    cases hb : Nat.beq i j with
    | true => exact ⟨_, rfl⟩
    | false =>
      simp only [cond_false, lk_app]
      rcases List.mem_cons.1 h with h | h
      · exact absurd h (beq_false.1 hb)
      · cases lk i (rowObjs j cs 0 (ds.getD n .no)) with
        | some o => exact ⟨o, rfl⟩
        | none => exact ih (n + 1) ds i h
theorem boxObjs_refs : ∀ (boxes : List (Nat × TypeId × List CK)) (n : Nat) (ds : List D) (j : Nat) (o : Obj), lk j (boxObjs boxes n ds) = some o → ∀ i, i ∈ objRefs0 o → ∃ o', lk i (boxObjs boxes n ds) = some o' := by
  intro boxes
  induction boxes with
  | nil => intro n ds j o h; cases h
  | cons x r ih =>
    obtain ⟨k, t, cs⟩ := x
    intro n ds j o h i hi
    have up : ∀ i o', lk i (boxObjs r (n + 1) ds) = some o' → ∃ o', lk i (boxObjs ((k, t, cs) :: r) n ds) = some o' := by
      intro i o' h
      simp only [boxObjs, lk]
      cases hb : Nat.beq i k with
      | true => exact ⟨_, rfl⟩
      | false =>
        simp only [cond_false, lk_app]
        cases lk i (rowObjs k cs 0 (ds.getD n .no)) with
        | some o => exact ⟨o, rfl⟩
        | none => exact ⟨o', h⟩
    simp only [boxObjs, lk] at h
    cases hb : Nat.beq j k with
    | true =>
      rw [hb] at h; injection h with h; subst h
      rcases mkCells_refs hi with rfl | ⟨c, e, g1, rfl⟩
      · exact ⟨.box t (.cells (mkCells i cs 0 (ds.getD n .no))), by simp only [boxObjs, lk, beq_self, cond_true]⟩
      · obtain ⟨o', ho'⟩ := rowObjs_there k cs 0 (ds.getD n .no) c e g1
        simp only [boxObjs, lk]
        cases hb2 : Nat.beq (rowId k (0 + c)) k with
        | true => exact ⟨_, rfl⟩
        | false => exact ⟨o', by simp only [cond_false, lk_app, ho']⟩
    | false =>
      rw [hb] at h
      simp only [cond_false, lk_app] at h
      cases hr : lk j (rowObjs k cs 0 (ds.getD n .no)) with
      | some o' =>
        rw [hr] at h; injection h with h; subst h
        obtain ⟨_, _, _, _, rfl⟩ := rowObjs_lk k cs 0 _ j o' hr
        cases hi
      | none =>
        rw [hr] at h
        obtain ⟨o', ho'⟩ := ih (n + 1) ds j o h i hi
        exact up i o' ho'
theorem freshOr_spec {st : St} {l : List Nat} : ∀ {os : List (Nat × Obj)}, freshOr st l os = true → ∀ i o, lk i os = some o → i ∈ l ∨ st.objs i = none := by
  intro os
  induction os with
  | nil => intro _ i o h; cases h
  | cons x r ih =>
    obtain ⟨k, o'⟩ := x
    intro h i o hi
    simp only [freshOr] at h
    obtain ⟨h1, h2⟩ : (memN k l || fresh st k) = true ∧ freshOr st l r = true := by
      cases hq : (memN k l || fresh st k) with
      | true => rw [hq] at h; exact ⟨rfl, h⟩
      | false => rw [hq] at h; cases h
    simp only [lk] at hi
    cases hb : Nat.beq i k with
    | true =>
      have := beq_iff.1 hb; subst this
      simp only [Bool.or_eq_true] at h1
      rcases h1 with h1 | h1
      · exact .inl (memN_iff.1 h1)
      · right
        unfold fresh at h1
        split at h1
        · cases h1
        · assumption
    | false => rw [hb] at hi; exact ih h2 i o hi
theorem boxIds_bid {bid : Nat → Nat} : ∀ (ps : List PM) (p : Nat) (i : Nat), i ∈ boxIds (boxesP bid p ps) → ∃ q t cs, ps[q]? = some (.box t cs) ∧ i = bid (p + q) := by
  intro ps
  induction ps with
  | nil => intro p i h; cases h
  | cons x r ih =>
    intro p i h
    have tail : i ∈ boxIds (boxesP bid (p + 1) r) → ∃ q t cs, (x :: r)[q]? = some (.box t cs) ∧ i = bid (p + q) := by
      intro h
      obtain ⟨q, t, cs, h1, h2⟩ := ih (p + 1) i h
      exact ⟨q + 1, t, cs, by simpa using h1, by rw [h2]; congr 1; omega⟩
    cases x with
    | box t cs =>
      rcases List.mem_cons.1 h with h | h
      · exact ⟨0, t, cs, rfl, h⟩
      · exact tail h
    | _ => exact tail h

section
variable {P : Program} {E : Env} (hT : TTok P E.tt) {st : St} {ops : List Oper} {a : Act} {w w0 : World} {X : Nat → Prop} {Mx : Mem} {ι : Nat → Value} {M : Mem}

/-- The blocks that are handed over. -/
def Xh (st : St) (ι : Nat → Value) (l : List Nat) (b : Nat) : Prop := ∃ i, i ∈ l ∧ ∃ o, st.objs i = some o ∧ blockOf (ι i) = some b

include hT in
theorem hargs_ok (hev : ∀ x s, ev st ops [] x = some s → SVRel E.tt ι M s (a.eval x)) (H : HRel E.tt X w0 Mx ι M st.objs w) {ps : List PM} {xs : List Operand} {ds : List D} {rs : List (Nat × Nat)} {boxes : List (Nat × TypeId × List CK)}
    (h : hargsO E st ops [] 0 ps xs = some (ds, rs, boxes)) (hnd : (sndL rs ++ boxIds boxes).Nodup) :
    ∃ bid : Nat → Nat, boxes = boxesP bid 0 ps ∧ (∀ p t cs, ps[p]? = some (.box t cs) → (xs.map a.eval)[p]? = some (ι (bid p)) ∧ ∃ o, st.objs (bid p) = some o) ∧ ArgsOK E (Xh st ι (sndL rs ++ boxIds boxes)) w M ps (xs.map a.eval) ds := by
  obtain ⟨hl, sl, os, bid, q1, q2, q3, q4, q5, q6⟩ := hargs_ind (vs := xs.map a.eval) hT hev H ps 0 xs ds rs boxes h (fun q x hx => by rw [Nat.zero_add, List.getElem?_map, hx]; rfl)
  have q6' : ∀ p t cs, ps[p]? = some (.box t cs) → (xs.map a.eval)[p]? = some (ι (bid p)) ∧ ∃ o, st.objs (bid p) = some o := fun p t cs hp => by
    have := q6 p t cs hp
    rw [Nat.zero_add] at this
    exact ⟨this.2, this.1⟩
  obtain ⟨n1, n2, n3⟩ := List.nodup_append.1 hnd
  refine ⟨bid, q5, q6', by simp [hl], sl, os, ιc w (xs.map a.eval), q1, ?_, q2, q3⟩
  -- where a handle comes from
  have src : ∀ id o b, lk id os = some o → blockOf (ιc w (xs.map a.eval) id) = some b → ∃ j, ((id, j) ∈ rs ∨ ∃ q t cs, ps[q]? = some (.box t cs) ∧ id = q ∧ j = bid q) ∧ (∃ o, st.objs j = some o) ∧ blockOf (ι j) = some b := by
    intro id o b ho hb
    rcases (q4 id o ho).2 with r | ⟨i, r1, r2, r3⟩ | ⟨q, t, cs, r1, r2, r3⟩
    · rw [r] at hb; cases hb
    · exact ⟨i, .inl r1, r2, by rw [← r3]; exact hb⟩
    · rw [Nat.zero_add] at r2 r3
      exact ⟨bid q, .inr ⟨q, t, cs, r1, r2, rfl⟩, (q6' q t cs r1).2, by rw [← r3]; exact hb⟩
  have inl : ∀ id j, ((id, j) ∈ rs ∨ ∃ q t cs, ps[q]? = some (.box t cs) ∧ id = q ∧ j = bid q) → j ∈ sndL rs ++ boxIds boxes := by
    intro id j hj
    rcases hj with hj | ⟨q, t, cs, r1, _, rfl⟩
    · exact List.mem_append_left _ (sndL_mem hj)
    · refine List.mem_append_right _ ?_
      have := boxIds_mem (bid := bid) ps 0 q t cs r1
      rw [Nat.zero_add] at this
      rw [q5]; exact this
  refine ⟨fun id o ho => (q4 id o ho).1, ?_, ?_, H.mem, fun _ _ h => h, fun _ _ _ => rfl, rfl, rfl, rfl, Nat.le_refl _, fun _ _ _ => rfl⟩
  · intro id id' o o' b h1 h2 hne hb hb'
    obtain ⟨j, s1, ⟨oj, s2⟩, s3⟩ := src id o b h1 hb
    obtain ⟨j', s1', ⟨oj', s2'⟩, s3'⟩ := src id' o' b h2 hb'
    have hjj : j ≠ j' := by
      intro e
      subst e
      rcases s1 with s1 | ⟨q, t, cs, r1, r2, r3⟩ <;> rcases s1' with s1' | ⟨q', t', cs', r1', r2', r3'⟩
      · exact hne (sndL_inj n1 s1 s1')
      · have hm := boxIds_mem (bid := bid) ps 0 q' t' cs' r1'
        rw [Nat.zero_add, ← q5, ← r3'] at hm
        exact n3 j (sndL_mem s1) j hm rfl
      · have hm := boxIds_mem (bid := bid) ps 0 q t cs r1
        rw [Nat.zero_add, ← q5, ← r3] at hm
        exact n3 j (sndL_mem s1') j hm rfl
      · have := boxIds_inj (bid := bid) ps 0 q q' t t' cs cs' (by rw [← q5]; exact n2) r1 r1' (by rw [Nat.zero_add, Nat.zero_add, ← r3, ← r3'])
        subst this
        exact hne (r2.trans r2'.symm)
    exact H.disj j j' oj oj' b s2 s2' hjj s3 s3'
  · intro id o b h1 hb
    obtain ⟨j, s1, ⟨oj, s2⟩, s3⟩ := src id o b h1 hb
    exact ⟨.inr ⟨j, inl id j s1, oj, s2, s3⟩, (H.own j oj b s2 s3).2⟩

/-- The caller's state behind the call. -/
theorem hret_left (H : HRel E.tt X w0 Mx ι M st.objs w) (hwf : WF st) {ps : List PM} {rms : List RM} {vs : List Value} {rows : List Nat} {boxes : List (Nat × TypeId × List CK)} {bid : Nat → Nat} (hbx : boxes = boxesP bid 0 ps)
    (hvs : ∀ p t cs, ps[p]? = some (.box t cs) → vs[p]? = some (ι (bid p))) {r : List D} {v : Value} {w' : World} (hret : RetOK E (Xh st ι (rows ++ boxIds boxes)) w M ps rms vs r v w') {base : Nat} {svs : List SV} {os1 : List (Nat × Obj)}
    (hres : resSV rms base 0 r = some (svs, os1)) (hnd : nodupL (keysN (os1 ++ boxObjs boxes rms.length r)) = true) (hfr : freshOr (dropRows rows st) (boxIds boxes) (os1 ++ boxObjs boxes rms.length r) = true) :
    ∃ ι' M', HRel E.tt X w0 Mx ι' M' (putAll (dropRows rows st).objs (os1 ++ boxObjs boxes rms.length r)) w' ∧
      (∀ t s1, (dropRows rows st).slots t = some s1 → ∃ s0, st.slots t = some s0 ∧ ∀ v0, SVRel E.tt ι M s0 v0 → SVRel E.tt ι' M' s1 v0) ∧ SVRel E.tt ι' M' (oneV svs) v ∧
      WF { dropRows rows st with objs := putAll (dropRows rows st).objs (os1 ++ boxObjs boxes rms.length r) } ∧ ∀ i, i ∈ refsOf (oneV svs) → ∃ o, putAll (dropRows rows st).objs (os1 ++ boxObjs boxes rms.length r) i = some o := by
  subst hbx
  obtain ⟨ι2, M', R, hv, hvr, hbp⟩ := hret base bid svs os1 hres hnd
  have D := drop_all rows H hwf
  generalize hos : os1 ++ boxObjs (boxesP bid 0 ps) rms.length r = os at *
  have hlkr : ∀ i o, lk i os1 = some o → ∃ o', lk i os = some o' := fun i o h => ⟨o, by rw [← hos, lk_app, h]⟩
  have hlkb : ∀ i o, lk i (boxObjs (boxesP bid 0 ps) rms.length r) = some o → ∃ o', lk i os = some o' := fun i o h => by
    rw [← hos, lk_app]
    cases lk i os1 with
    | some o' => exact ⟨o', rfl⟩
    | none => exact ⟨o, h⟩
  have hosr : ∀ j o, lk j os = some o → ∀ i, i ∈ objRefs0 o → ∃ o', lk i os = some o' := by
    intro j o h i hi
    rw [← hos, lk_app] at h
    cases hl : lk j os1 with
    | some o' =>
      rw [hl] at h; injection h with h; subst h
      rw [(resSV_spec rms base 0 r svs os1 hres).1 j o' hl] at hi; cases hi
    | none =>
      rw [hl] at h
      obtain ⟨o', ho'⟩ := boxObjs_refs _ _ _ j o h i hi
      exact hlkb i o' ho'
  obtain ⟨hM, hold⟩ := HRel.merge2 (hs := boxIds (boxesP bid 0 ps)) D.rel R (fun b ⟨i, _, o, ho, hb⟩ => (H.own i o b ho hb).1) (fun b ⟨j, hj, oj, hoj, hbj⟩ i o ho hi hb => by
      obtain ⟨h1, o0, h2⟩ := D.there i o ho
      have hij : i ≠ j := by
        intro e; subst e
        rcases List.mem_append.1 hj with hj | hj
        · exact h1 hj
        · exact hi hj
      exact H.disj i j o0 oj b h2 hoj hij hb hbj)
    (fun i o h => freshOr_spec hfr i o h) (fun i hi => by obtain ⟨o, ho⟩ := boxObjs_there _ rms.length r i hi; exact hlkb i o ho)
    (fun i hi => by
      obtain ⟨q, t, cs, g1, g2⟩ := boxIds_bid ps 0 i hi
      rw [Nat.zero_add] at g2; subst g2
      have e1 := hvs q t cs g1
      have e2 := hbp q t cs g1
      rw [e1] at e2; injection e2 with e2; exact e2.symm)
    D.wf.cells hosr
  have hin : ∀ i, (∃ o, (dropRows rows st).objs i = some o) → ∃ o, putAll (dropRows rows st).objs os i = some o := by
    intro i ⟨o, ho⟩
    rw [putAll_eq]
    cases lk i os with
    | some o' => exact ⟨o', rfl⟩
    | none => exact ⟨o, ho⟩
  have hin2 : ∀ i, (∃ o, lk i os = some o) → ∃ o, putAll (dropRows rows st).objs os i = some o := by
    intro i ⟨o, ho⟩
    rw [putAll_eq, ho]; exact ⟨o, rfl⟩
  refine ⟨joinι os ι ι2, M', hM, ?_, ?_, ⟨?_, ?_⟩, ?_⟩
  · intro t s1 h
    obtain ⟨s0, h1, h2⟩ := D.slots t s1 h
    exact ⟨s0, h1, fun v0 h0 => (h2 v0 h0).congr (fun i hi => hold i (D.wf.slots t s1 h i hi)) R.memx⟩
  · refine hv.congr (fun i hi => ?_) (fun _ _ h => h)
    obtain ⟨o, ho⟩ := hvr i hi
    obtain ⟨o', ho'⟩ := hlkr i o ho
    unfold joinι; rw [ho']
  · intro t s h i hi
    exact hin i (D.wf.slots t s h i hi)
  · intro j o hj i hi
    simp only [putAll_eq] at hj
    cases hl : lk j os with
    | some o' =>
      rw [hl] at hj; injection hj with hj; subst hj
      exact hin2 i (hosr j o' hl i hi)
    | none =>
      rw [hl] at hj
      exact hin i (D.wf.cells j o hj i hi)
  · intro i hi
    obtain ⟨o, ho⟩ := hvr i hi
    exact hin2 i (hlkr i o ho)
end
end Go.Proofs.YtjofkhdnidjleabDoor.DS
