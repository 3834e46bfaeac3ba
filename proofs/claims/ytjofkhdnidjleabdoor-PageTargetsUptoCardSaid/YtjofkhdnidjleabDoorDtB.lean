/- What is done ahead of a region: all else is forgotten. -/
import Derived.Test.YtjofkhdnidjleabDoorDuE
set_option linter.unusedVariables false
set_option linter.unusedSimpArgs false
namespace Go.Proofs.YtjofkhdnidjleabDoor.DS

theorem nodupN_iff {l : List Nat} : nodupN l = true ↔ l.Nodup := by
  induction l with
  | nil => simp [nodupN]
  | cons x r ih =>
    simp only [nodupN, List.nodup_cons]
    cases h : memN x r with
    | true => simp [memN_iff.1 h]
    | false => simp [ih, memN_false h]
theorem allIn_iff {l m : List Nat} : allIn l m = true ↔ ∀ x ∈ l, x ∈ m := by
  induction l with
  | nil => simp [allIn]
  | cons x r ih =>
    simp only [allIn, List.forall_mem_cons]
    cases h : memN x m with
    | true => simp [memN_iff.1 h, ih]
    | false => simp [memN_false h]
theorem lk_keys {α : Type} {i : Nat} {l : List (Nat × α)} : (∃ o, lk i l = some o) ↔ i ∈ keysOf l := by
  induction l with
  | nil => simp [lk, keysOf]
  | cons p r ih =>
    obtain ⟨t, x⟩ := p
    simp only [lk, keysOf, List.mem_cons]
    cases h : Nat.beq i t with
    | true => simp [beq_iff.1 h]
    | false => simp [ih, beq_false.1 h]
theorem lk_append {α : Type} {i : Nat} {l m : List (Nat × α)} : lk i (l ++ m) = match lk i l with | some x => some x | none => lk i m := by
  induction l with
  | nil => rfl
  | cons p r ih =>
    obtain ⟨t, x⟩ := p
    simp only [List.cons_append, lk]
    cases h : Nat.beq i t with
    | true => rfl
    | false => simp only [cond_false]; exact ih
theorem keysOf_append {α : Type} {l m : List (Nat × α)} : keysOf (l ++ m) = keysOf l ++ keysOf m := by
  induction l with
  | nil => rfl
  | cons p r ih => simp [keysOf, ih]

theorem keepObjs_spec {st : St} : ∀ (ids : List Nat) (os : List (Nat × Obj)), keepObjs st ids = some os → keysOf os = ids ∧ ∀ i o, lk i os = some o → st.objs i = some o := by
  intro ids
  induction ids with
  | nil => intro os h; injection h with h; subst h; exact ⟨rfl, fun i o h => by cases h⟩
  | cons id r ih =>
    intro os h
    obtain ⟨o, ho, h⟩ := opt_some.1 h
    obtain ⟨x, hx, h⟩ := opt_some.1 h
    injection h with h; subst h
    obtain ⟨h1, h2⟩ := ih x hx
    refine ⟨by simp [keysOf, h1], fun i o' h => ?_⟩
    simp only [lk] at h
    cases hb : Nat.beq i id with
    | true => rw [hb] at h; injection h with h; subst h; rw [beq_iff.1 hb]; exact ho
    | false => rw [hb] at h; exact h2 i o' h

structure KeepSpec (tt : TT) (st : St) (ks : List (Nat × NA)) (sl : List (Nat × SV)) (ob : List (Nat × Obj)) : Prop where
  slot : ∀ t s, lk t sl = some s → (∃ s0, st.slots t = some s0 ∧ (∀ (ι : Nat → Value) (M : Mem) (v : Value), SVRel tt ι M s0 v → SVRel tt ι M s v) ∧ ∀ i ∈ refsOf s, i ∈ asisRefs st ks) ∨ (s = .own t ∧ ∃ o, lk t ob = some o)
  obj : ∀ i o, lk i ob = some o → objRefs0 o = [] ∧ ((st.slots i = some .nil ∧ ∃ e ei, o = .arr e [] ∧ lk e tt = some ei ∧ 1 ≤ ei.cells.length) ∨ ∃ id, st.slots i = some (.own id) ∧ st.objs id = some o ∧ id ∈ keepIds st ks)
  dis : ∀ i j id, (∃ o, lk i ob = some o) → (∃ o, lk j ob = some o) → st.slots i = some (.own id) → st.slots j = some (.own id) → i = j

theorem keepSlots_spec {tt : TT} {st : St} : ∀ (ks : List (Nat × NA)) sl ob, keepSlots tt st ks = some (sl, ob) → (keepIds st ks).Nodup → KeepSpec tt st ks sl ob := by
  intro ks
  induction ks with
  | nil =>
    intro sl ob h _
    injection h with h; injection h with h1 h2; subst h1 h2
    exact ⟨fun t s h => (by cases h), fun i o h => (by cases h), fun i j id h => (by obtain ⟨_, h⟩ := h; cases h)⟩
  | cons p r ih =>
    obtain ⟨t, na⟩ := p
    intro sl ob h hnd
    cases na with
    | asis =>
      simp only [keepSlots] at h
      obtain ⟨s, hs, h⟩ := opt_some.1 h
      obtain ⟨x, hx, h⟩ := opt_some.1 h
      injection h with h; injection h with h1 h2; subst h1 h2
      have K := ih x.1 x.2 hx hnd
      have ha : asisRefs st ((t, .asis) :: r) = refsOf s ++ asisRefs st r := by simp only [asisRefs, hs]
      refine ⟨fun u s' h => ?_, fun i o h => ?_, K.dis⟩
      · simp only [lk] at h
        cases hb : Nat.beq u t with
        | true =>
          rw [hb] at h; injection h with h; subst h
          have := beq_iff.1 hb; subst this
          exact .inl ⟨s, hs, fun _ _ _ h => h, fun i hi => by rw [ha]; exact List.mem_append_left _ hi⟩
        | false =>
          rw [hb] at h
          rcases K.slot u s' h with ⟨s0, h1, h3, h2⟩ | h1
          · exact .inl ⟨s0, h1, h3, fun i hi => by rw [ha]; exact List.mem_append_right _ (h2 i hi)⟩
          · exact .inr h1
      · exact K.obj i o h
    | dat e =>
      simp only [keepSlots] at h
      obtain ⟨s, hs, h⟩ := opt_some.1 h
      obtain ⟨x, hx, h⟩ := opt_some.1 h
      have K := ih x.1 x.2 hx hnd
      have key : ∀ k d, (some ((t, SV.val k d) :: x.1, x.2)) = some (sl, ob) → (∀ (ι : Nat → Value) (M : Mem) (v : Value), SVRel tt ι M s v → SVRel tt ι M (.val k d) v) → KeepSpec tt st ((t, .dat e) :: r) sl ob := by
        intro k d h hk
        injection h with h; injection h with h1 h2; subst h1 h2
        refine ⟨fun u s' h => ?_, fun i o h => K.obj i o h, K.dis⟩
        simp only [lk] at h
        cases hb : Nat.beq u t with
        | true =>
          rw [hb] at h; injection h with h; subst h
          have := beq_iff.1 hb; subst this
          exact .inl ⟨s, hs, hk, fun i hi => by cases hi⟩
        | false =>
          rw [hb] at h
          exact K.slot u s' h
      cases s with
      | nil =>
        refine key (.slice e) (.list []) h fun ι M v hv => ?_
        have : v = .slice none 0 0 := hv
        subst this
        exact Rep.nil e none 0 (Nat.zero_le _)
      | val k d => exact key k d h fun _ _ _ h => h
      | _ => cases h
    | own e =>
      simp only [keepSlots] at h
      obtain ⟨s, hs, h⟩ := opt_some.1 h
      obtain ⟨x, hx, h⟩ := opt_some.1 h
      cases s with
      | nil =>
        simp only at h
        have hk : keepIds st ((t, .own e) :: r) = keepIds st r := by simp only [keepIds, hs]
        rw [hk] at hnd
        have K := ih x.1 x.2 hx hnd
        cases hei : lk e tt with
        | none => rw [hei] at h; cases h
        | some ei =>
          rw [hei] at h
          obtain ⟨hle, h⟩ := cond_some.1 h
          injection h with h; injection h with h1 h2; subst h1 h2
          refine ⟨fun u s' h => ?_, fun i o h => ?_, ?_⟩
          · simp only [lk] at h ⊢
            cases hb : Nat.beq u t with
            | true =>
              rw [hb] at h; injection h with h; subst h
              have := beq_iff.1 hb; subst this
              exact .inr ⟨rfl, _, rfl⟩
            | false =>
              rw [hb] at h
              rcases K.slot u s' h with h1 | h1
              · exact .inl h1
              · exact .inr h1
          · simp only [lk] at h
            cases hb : Nat.beq i t with
            | true =>
              rw [hb] at h; injection h with h; subst h
              have := beq_iff.1 hb; subst this
              exact ⟨rfl, .inl ⟨hs, e, ei, rfl, hei, Nat.le_of_ble_eq_true hle⟩⟩
            | false => rw [hb] at h; rw [hk]; exact K.obj i o h
          · intro i j id hi hj hsi hsj
            have hit : i ≠ t := fun e => by subst e; rw [hs] at hsi; cases hsi
            have hjt : j ≠ t := fun e => by subst e; rw [hs] at hsj; cases hsj
            simp only [lk, beq_false.2 hit, beq_false.2 hjt, cond_false] at hi hj
            exact K.dis i j id hi hj hsi hsj
      | own id =>
        simp only at h
        have hk : keepIds st ((t, .own e) :: r) = id :: keepIds st r := by simp only [keepIds, hs]
        rw [hk] at hnd
        obtain ⟨hni, hnd⟩ := List.nodup_cons.1 hnd
        have K := ih x.1 x.2 hx hnd
        cases hob : st.objs id with
        | none => rw [hob] at h; cases h
        | some o =>
          rw [hob] at h
          cases o with
          | box _ _ => cases h
          | arr e' es =>
            obtain ⟨hle, h⟩ := cond_some.1 h
            injection h with h; injection h with h1 h2; subst h1 h2
            refine ⟨fun u s' h => ?_, fun i o h => ?_, ?_⟩
            · simp only [lk] at h ⊢
              cases hb : Nat.beq u t with
              | true =>
                rw [hb] at h; injection h with h; subst h
                have := beq_iff.1 hb; subst this
                exact .inr ⟨rfl, _, rfl⟩
              | false =>
                rw [hb] at h
                rcases K.slot u s' h with h1 | h1
                · exact .inl h1
                · exact .inr h1
            · simp only [lk] at h
              rw [hk]
              cases hb : Nat.beq i t with
              | true =>
                rw [hb] at h; injection h with h; subst h
                have := beq_iff.1 hb; subst this
                exact ⟨rfl, .inr ⟨id, hs, hob, List.mem_cons_self⟩⟩
              | false =>
                rw [hb] at h
                obtain ⟨h1, h2⟩ := K.obj i o h
                refine ⟨h1, ?_⟩
                rcases h2 with h2 | ⟨id', q1, q2, q3⟩
                · exact .inl h2
                · exact .inr ⟨id', q1, q2, List.mem_cons_of_mem _ q3⟩
            · have hother : ∀ j id', (∃ o, lk j x.2 = some o) → st.slots j = some (.own id') → id' ≠ id := by
                intro j id' ⟨o, ho⟩ hsj e
                subst e
                rcases (K.obj j o ho).2 with ⟨q, _⟩ | ⟨id2, q1, _, q3⟩
                · rw [hsj] at q; cases q
                · rw [hsj] at q1; injection q1 with q1; injection q1 with q1; subst q1; exact hni q3
              intro i j id' hi hj hsi hsj
              simp only [lk] at hi hj
              by_cases hit : i = t
              · by_cases hjt : j = t
                · rw [hit, hjt]
                · exfalso
                  rw [beq_false.2 hjt] at hj
                  subst hit
                  rw [hs] at hsi; injection hsi with hsi; injection hsi with hsi
                  exact hother j id' hj hsj hsi.symm
              · by_cases hjt : j = t
                · exfalso
                  rw [beq_false.2 hit] at hi
                  subst hjt
                  rw [hs] at hsj; injection hsj with hsj; injection hsj with hsj
                  exact hother i id' hi hsi hsj.symm
                · rw [beq_false.2 hit] at hi
                  rw [beq_false.2 hjt] at hj
                  exact K.dis i j id' hi hj hsi hsj
      | _ => cases h

section
variable {P : Program} {E : Env} {X : Nat → Prop} {w0 : World} {Mx : Mem} {pv : Nat → Option Value}

theorem objRefs_mem {i j : Nat} {o : Obj} {os : List (Nat × Obj)} (h : lk j os = some o) (hi : i ∈ objRefs0 o) : ∀ x ∈ refsL (match o with | .box _ (.cells l) => l | _ => []), x = x ∧ True := fun _ _ => ⟨rfl, trivial⟩

theorem cellRefs_mem {i : Nat} {l : List SV} (h : i ∈ refsL l) : i ∈ cellRefs l := by
  induction l with
  | nil => cases h
  | cons s r ih =>
    simp only [refsL, List.mem_append] at h
    simp only [cellRefs, List.mem_append]
    rcases h with h | h
    · exact .inl (refs_of_refs0 h)
    · exact .inr (ih h)
theorem objRefs_of {i j : Nat} {o : Obj} : ∀ {os : List (Nat × Obj)}, lk j os = some o → i ∈ objRefs0 o → i ∈ objRefs os := by
  intro os
  induction os with
  | nil => intro h; cases h
  | cons p r ih =>
    obtain ⟨t, x⟩ := p
    intro h hi
    simp only [lk] at h
    have hr : lk j r = some o → i ∈ objRefs ((t, x) :: r) := by
      intro h
      have := ih h hi
      cases x with
      | arr _ _ => exact this
      | box _ c =>
        cases c with
        | whole _ => exact this
        | cells l => exact List.mem_append_right _ this
    cases hb : Nat.beq j t with
    | true =>
      rw [hb] at h; injection h with h; subst h
      cases x with
      | arr _ _ => cases hi
      | box _ c =>
        cases c with
        | whole _ => cases hi
        | cells l => exact List.mem_append_left _ (cellRefs_mem hi)
    | false => rw [hb] at h; exact hr h

theorem frzSlots_sound {a : Act} {w : World} : ∀ (l : List Nat) (st st' : St), SI E X w0 Mx pv st a w → frzSlots l st = some st' → SI E X w0 Mx pv st' a w := by
  intro l
  induction l with
  | nil => intro st st' h hf; injection hf with hf; subst hf; exact h
  | cons t r ih =>
    intro st st' h hf
    unfold frzSlots at hf
    split at hf
    · obtain ⟨st1, h1, hf⟩ := opt_some.1 hf
      exact ih st1 st' (frzAll_sound _ _ _ h h1) hf
    · exact ih st st' h hf

theorem frzBoxes_sound {a : Act} {w : World} : ∀ (l : List Nat) (st st' : St), SI E X w0 Mx pv st a w → frzBoxes l st = some st' → SI E X w0 Mx pv st' a w := by
  intro l
  induction l with
  | nil => intro st st' h hf; injection hf with hf; subst hf; exact h
  | cons t r ih =>
    intro st st' h hf
    unfold frzBoxes at hf
    split at hf
    · split at hf
      · obtain ⟨st1, h1, hf⟩ := opt_some.1 hf
        exact ih st1 st' (frzAll_sound _ _ _ h h1) hf
      · exact ih st st' h hf
    · exact ih st st' h hf

theorem norm_sound {nm : Norm} {st st' : St} {a : Act} {w : World} (h : SI E X w0 Mx pv st a w) (hf : normSt E.tt nm st = some st') : SI E X w0 Mx pv st' a w := by
  unfold normSt at hf
  obtain ⟨stz, h1, hf⟩ := opt_some.1 hf
  replace h := frzAll_sound nm.freeze st stz h h1
  obtain ⟨st0, h1', hf⟩ := opt_some.1 hf
  replace h := frzSlots_sound (nm.frz ++ datsOf nm.keep) stz st0 h h1'
  obtain ⟨st00, h1c, hf⟩ := opt_some.1 hf
  replace h := frzBoxes_sound nm.frz st0 st00 h h1c
  obtain ⟨st1, h1b, hf⟩ := opt_some.1 hf
  replace h := rowCells_sound nm.rows st00 st1 h h1b
  cases hk : nm.keep with
  | none => rw [hk] at hf; injection hf with hf; subst hf; exact h
  | some ks =>
    rw [hk] at hf
    simp only at hf
    obtain ⟨x, hx, hf⟩ := opt_some.1 hf
    obtain ⟨os, hos, hf⟩ := opt_some.1 hf
    obtain ⟨hc, hf⟩ := cond_some.1 hf
    injection hf with hf; subst hf
    simp only [Bool.and_eq_true] at hc
    obtain ⟨c1, c2, c3, c4⟩ := hc
    have c1 := nodupN_iff.1 c1
    have c2 := nodupN_iff.1 c2
    have c3 := allIn_iff.1 c3
    have c4 := allIn_iff.1 c4
    rw [keysOf_append] at c1
    obtain ⟨_, _, c1⟩ := List.nodup_append.1 c1
    obtain ⟨c5, _, c6⟩ := List.nodup_append.1 c2
    have K := keepSlots_spec ks x.1 x.2 hx c5
    obtain ⟨ko, hko⟩ := keepObjs_spec (idsOf nm st1 ks) os hos
    obtain ⟨⟨ι, M, H, hs⟩, hwf, hsz, hdf, hpin⟩ := h
    have hnone : ∀ i, i ∈ (idsOf nm st1 ks) → lk i x.2 = none := by
      intro i hi
      cases hl : lk i x.2 with
      | none => rfl
      | some o => exact absurd rfl (c1 i (lk_keys.1 ⟨o, hl⟩) i (by rw [ko]; exact hi))
    have hthere : ∀ i, i ∈ (idsOf nm st1 ks) → ∃ o, lk i (x.2 ++ os) = some o := by
      intro i hi
      obtain ⟨o, ho⟩ := lk_keys.2 (show i ∈ keysOf os by rw [ko]; exact hi)
      exact ⟨o, by rw [lk_append, hnone i hi]; exact ho⟩
    let ι' : Nat → Value := fun i => match lk i x.2 with | some _ => a.eval (.tmp i) | none => ι i
    have hι1 : ∀ i, i ∈ (idsOf nm st1 ks) → ι' i = ι i := fun i hi => by simp only [ι', hnone i hi]
    have hι2 : ∀ i o, lk i x.2 = some o → ι' i = a.eval (.tmp i) := fun i o h => by simp only [ι', h]
    -- a kept object and its handle
    have hown : ∀ i o, lk i x.2 = some o → (ι' i = .slice none 0 0 ∧ ∃ e ei, o = .arr e [] ∧ lk e E.tt = some ei ∧ 1 ≤ ei.cells.length) ∨ ∃ id, st1.slots i = some (.own id) ∧ st1.objs id = some o ∧ ι' i = ι id ∧ id ∈ keepIds st1 ks ∧ ∃ a n c, ι id = .slice a n c := by
      intro i o hi
      rcases (K.obj i o hi).2 with ⟨q1, q2⟩ | ⟨id, q1, q2, q3⟩
      · exact .inl ⟨by rw [hι2 i o hi]; exact hs i _ q1, q2⟩
      · obtain ⟨r1, r2⟩ : a.eval (.tmp i) = ι id ∧ _ := hs i _ q1
        exact .inr ⟨id, q1, q2, by rw [hι2 i o hi]; exact r1, q3, r2⟩
    have hobj : ∀ i o, lk i (x.2 ++ os) = some o → lk i x.2 = some o ∨ (lk i x.2 = none ∧ i ∈ (idsOf nm st1 ks) ∧ lk i os = some o ∧ st1.objs i = some o) := by
      intro i o h
      rw [lk_append] at h
      cases hl : lk i x.2 with
      | some o' => rw [hl] at h; exact .inl h
      | none => rw [hl] at h; exact .inr ⟨rfl, by rw [← ko]; exact lk_keys.1 ⟨o, h⟩, h, hko i o h⟩
    -- the origin of a block
    have horig : ∀ i o b, lk i (x.2 ++ os) = some o → blockOf (ι' i) = some b → ∃ id, st1.objs id = some o ∧ blockOf (ι id) = some b ∧ ((lk i x.2 = some o ∧ st1.slots i = some (.own id) ∧ id ∈ keepIds st1 ks) ∨ (lk i x.2 = none ∧ id = i ∧ i ∈ (idsOf nm st1 ks))) := by
      intro i o b h hb
      rcases hobj i o h with h1 | ⟨h0, h1, h2, h3⟩
      · rcases hown i o h1 with ⟨q, _⟩ | ⟨id, q1, q2, q3, q4, _⟩
        · rw [q] at hb; cases hb
        · exact ⟨id, q2, by rw [← q3]; exact hb, .inl ⟨h1, q1, q4⟩⟩
      · exact ⟨i, h3, by rw [← hι1 i h1]; exact hb, .inr ⟨h0, rfl, h1⟩⟩
    refine ⟨⟨ι', M, ⟨?_, ?_, ?_, H.mem, H.memx, H.memB, H.os, H.tape, H.output, H.size, H.keep⟩, ?_⟩, ⟨?_, ?_⟩, hsz, hdf, hpin⟩
    · intro i o h
      rcases hobj i o h with h1 | ⟨_, h1, h2, h3⟩
      · rcases hown i o h1 with ⟨q1, e, ei, rfl, q2, q3⟩ | ⟨id, q1, q2, q3, _⟩
        · exact ⟨ei, q2, q3, .inl ⟨q1, rfl⟩⟩
        · have hr := H.obj id o q2
          have hno := (K.obj i o h1).1
          cases o with
          | arr e es =>
            obtain ⟨ei, r1, r2, r3⟩ := hr
            exact ⟨ei, r1, r2, by rw [q3]; exact r3⟩
          | box t c =>
            obtain ⟨_, _, _, _, hp, _⟩ := hr
            obtain ⟨_, _, _, hsl⟩ : ∃ a n c, ι id = .slice a n c := by
              rcases hown i _ h1 with ⟨_, e, _, h, _⟩ | ⟨id', p1, p2, p3, p4, p5⟩
              · cases h
              · rw [q1] at p1
                have : id = id' := by injection p1 with p1; injection p1
                rw [this]; exact p5
            rw [hp] at hsl; cases hsl
      · refine (H.obj i o h3).congr (hι1 i h1) (fun j hj => hι1 j (c4 j (objRefs_of h2 hj))) (fun _ _ h => h) (fun _ _ => rfl)
    · intro i j oi oj b hi hj hij hbi hbj
      obtain ⟨id1, p1, p2, p3⟩ := horig i oi b hi hbi
      obtain ⟨id2, r1, r2, r3⟩ := horig j oj b hj hbj
      have hne : id1 ≠ id2 := by
        intro e
        subst e
        rcases p3 with ⟨k1, k2, k3⟩ | ⟨k1, k2, k3⟩ <;> rcases r3 with ⟨l1, l2, l3⟩ | ⟨l1, l2, l3⟩
        · exact hij (K.dis i j id1 ⟨_, k1⟩ ⟨_, l1⟩ k2 l2)
        · exact c6 id1 k3 id1 (by rw [l2]; exact l3) rfl
        · exact c6 id1 l3 id1 (by rw [k2]; exact k3) rfl
        · exact hij (k2.symm.trans l2)
      exact H.disj id1 id2 oi oj b p1 r1 hne p2 r2
    · intro i o b hi hb
      obtain ⟨id, p1, p2, _⟩ := horig i o b hi hb
      exact H.own id o b p1 p2
    · intro t s ht
      simp only at ht
      rcases K.slot t s ht with ⟨s0, q1, q3, q2⟩ | ⟨rfl, o, ho⟩
      · exact (q3 _ _ _ (hs t s0 q1)).congr (fun i hi => hι1 i (c3 i (q2 i hi))) (fun _ _ h => h)
      · refine ⟨(hι2 t o ho).symm, ?_⟩
        rcases hown t o ho with ⟨q, _⟩ | ⟨id, _, _, q3, _, q5⟩
        · exact ⟨_, _, _, q⟩
        · rw [q3]; exact q5
    · intro t s ht i hi
      simp only at ht ⊢
      rcases K.slot t s ht with ⟨s0, q1, q3, q2⟩ | ⟨rfl, o, ho⟩
      · exact hthere i (c3 i (q2 i hi))
      · simp only [refsOf, refs0, List.mem_singleton] at hi
        subst hi
        exact ⟨o, by rw [lk_append, ho]⟩
    · intro j o hj i hi
      simp only at hj ⊢
      rcases hobj j o hj with h1 | ⟨_, h1, h2, h3⟩
      · rw [(K.obj j o h1).1] at hi; cases hi
      · exact hthere i (c4 i (objRefs_of h2 hi))

theorem normAt_sound {an : List (Nat × Norm)} {c : Code} {st st' : St} {a : Act} {w : World} (h : SI E X w0 Mx pv st a w) (hf : normAt E.tt an c st = some st') : SI E X w0 Mx pv st' a w := by
  unfold normAt at hf
  split at hf
  · split at hf
    · exact norm_sound h hf
    · injection hf with hf; subst hf; exact h
  · injection hf with hf; subst hf; exact h

end
end Go.Proofs.YtjofkhdnidjleabDoor.DS
