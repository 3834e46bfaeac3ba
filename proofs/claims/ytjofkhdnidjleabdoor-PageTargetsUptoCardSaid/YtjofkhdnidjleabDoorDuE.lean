/- What is done ahead of a region: the rows that lie in cells of boxes get names of their own. -/
import Derived.Test.YtjofkhdnidjleabDoorDtA
set_option linter.unusedVariables false
set_option linter.unusedSimpArgs false
namespace Go.Proofs.YtjofkhdnidjleabDoor.DS

section
variable {P : Program} {E : Env} {X : Nat → Prop} {w0 : World} {Mx : Mem} {pv : Nat → Option Value}

theorem renCells_get (id rid : Nat) (l : List SV) (i : Nat) : (renCells id rid l)[i]? = (l[i]?).map (renSV0 id rid) := by
  induction l generalizing i with
  | nil => simp [renCells]
  | cons s r ih => cases i <;> simp [renCells, ih]
theorem renCells_length (id rid : Nat) (l : List SV) : (renCells id rid l).length = l.length := by
  induction l with
  | nil => rfl
  | cons s r ih => simp [renCells, ih]
theorem refsOf_ren0 {id rid : Nat} {s : SV} {i : Nat} (h : i ∈ refsOf (renSV0 id rid s)) : i = rid ∧ id ∈ refsOf s ∨ i ∈ refsOf s ∧ i ≠ id := by
  unfold renSV0 at h
  split at h
  · rename_i j
    cases hb : Nat.beq j id with
    | true =>
      rw [hb] at h
      simp only [cond_true, refsOf, refs0, List.mem_singleton] at h
      exact .inl ⟨h, by simp [refsOf, refs0, beq_iff.1 hb]⟩
    | false =>
      rw [hb] at h
      simp only [cond_false, refsOf, refs0, List.mem_singleton] at h
      subst h
      exact .inr ⟨by simp [refsOf, refs0], beq_false.1 hb⟩
  · cases h
  · cases hn : s.names id with
    | true => rw [hn] at h; cases h
    | false =>
      rw [hn] at h
      refine .inr ⟨h, fun e => ?_⟩
      subst e
      exact memN_false hn h
theorem refs0_ren {id rid : Nat} {s : SV} {i : Nat} (h : i ∈ refs0 (renSV0 id rid s)) : i = rid ∧ id ∈ refs0 s ∨ i ∈ refs0 s ∧ i ≠ id := by
  have := refsOf_ren0 (refs_of_refs0 h)
  cases s with
  | tup l =>
    exfalso
    unfold renSV0 at h
    simp only at h
    cases hn : (SV.tup l).names id with
    | true => rw [hn] at h; cases h
    | false => rw [hn] at h; cases h
  | sag t ks l =>
    exfalso
    unfold renSV0 at h
    simp only at h
    cases hn : (SV.sag t ks l).names id with
    | true => rw [hn] at h; cases h
    | false => rw [hn] at h; cases h
  | _ => exact this
theorem refs_ren {id rid : Nat} {s : SV} {i : Nat} (h : i ∈ refsOf (renSV id rid s)) : i = rid ∧ id ∈ refsOf s ∨ i ∈ refsOf s ∧ i ≠ id := by
  cases s with
  | sag t ks l =>
    obtain ⟨s1, hs1, hi⟩ := mem_refsL.1 (show i ∈ refsL (renCells id rid l) from h)
    obtain ⟨n, hn⟩ := List.mem_iff_getElem?.1 hs1
    rw [renCells_get, Option.map_eq_some_iff] at hn
    obtain ⟨s0, hs0, rfl⟩ := hn
    rcases refs0_ren hi with ⟨h1, h2⟩ | ⟨h1, h2⟩
    · exact .inl ⟨h1, mem_refsL.2 ⟨s0, List.mem_of_getElem? hs0, h2⟩⟩
    · exact .inr ⟨mem_refsL.2 ⟨s0, List.mem_of_getElem? hs0, h1⟩, h2⟩
  | _ => exact refsOf_ren0 h
theorem ren_rel0 {tt : TT} {ι : Nat → Value} {M : Mem} {id rid : Nat} {s : SV} {v : Value} (h : SVRel0 tt ι M s v) (hr : rid ∉ refs0 s) : SVRel0 tt (put ι rid (ι id)) M (renSV0 id rid s) v := by
  have hgen : SVRel0 tt (put ι rid (ι id)) M (cond (s.names id) .gone s) v := by
    cases s.names id with
    | true => trivial
    | false => exact h.updι hr
  cases s with
  | own j =>
    simp only [renSV0]
    cases hb : Nat.beq j id with
    | true =>
      have := beq_iff.1 hb
      subst this
      obtain ⟨h1, a, n, c, h2⟩ : v = ι j ∧ ∃ a n c, ι j = .slice a n c := h
      exact ⟨by rw [put_same]; exact h1, a, n, c, by rw [put_same]; exact h2⟩
    | false => exact h.updι hr
  | val k d => exact h.updι hr
  | _ => exact hgen
theorem ren_rel {tt : TT} {ι : Nat → Value} {M : Mem} {id rid : Nat} {s : SV} {v : Value} (h : SVRel tt ι M s v) (hr : rid ∉ refsOf s) : SVRel tt (put ι rid (ι id)) M (renSV id rid s) v := by
  have hgen : SVRel tt (put ι rid (ι id)) M (cond (s.names id) .gone s) v := by
    cases s.names id with
    | true => trivial
    | false => exact h.updι hr
  cases s with
  | own j => exact .of0 (ren_rel0 (s := .own j) h hr)
  | val k d => exact h.updι hr
  | sag t ks l =>
    obtain ⟨ti, vs, h1, h2, h3, h4, h5, h6, h7⟩ := h
    refine ⟨ti, vs, h1, h2, h3, h4, by rw [renCells_length]; exact h5, by rw [renCells_length]; exact h6, fun i s x hs hx => ?_⟩
    rw [renCells_get, Option.map_eq_some_iff] at hs
    obtain ⟨s0, hs0, rfl⟩ := hs
    exact ren_rel0 (h7 i s0 x hs0 hx) (fun hi => hr (mem_refsL.2 ⟨s0, List.mem_of_getElem? hs0, hi⟩))
  | _ => exact hgen
theorem ren_obj {tt : TT} {ι : Nat → Value} {M : Mem} {w : World} {id rid : Nat} {i : Nat} {o : Obj} (h : ObjRel tt ι M w i o) (hi : i ≠ rid) (hr : rid ∉ objRefs0 o) : ObjRel tt (put ι rid (ι id)) M w i (renObj id rid o) := by
  have hc := h.keep (w' := w) (x := ι id) hi hr (fun _ _ => rfl)
  cases o with
  | arr e es => exact hc
  | box t c =>
    cases c with
    | whole d => exact hc
    | cells l =>
      obtain ⟨ti, b, cs, h1, h2, h3, h5, h6, h7⟩ := h
      refine ⟨ti, b, cs, h1, by rw [put_other _ _ _ hi]; exact h2, h3, h5, by rw [renCells_length]; exact h6, fun j s c hs hcj => ?_⟩
      rw [renCells_get, Option.map_eq_some_iff] at hs
      obtain ⟨s0, hs0, rfl⟩ := hs
      exact ren_rel0 (h7 j s0 c hs0 hcj) (fun hi => hr (mem_refsL.2 ⟨s0, List.mem_of_getElem? hs0, hi⟩))

/-- A row under another name. -/
theorem ren_sound {st : St} {a : Act} {w : World} (h : SI E X w0 Mx pv st a w) {id rid : Nat} {e : TypeId} {es : List D} (ho : st.objs id = some (.arr e es)) (hf : st.objs rid = none) : SI E X w0 Mx pv (st.ren id rid e es) a w := by
  obtain ⟨⟨ι, M, H, hs⟩, hwf, hsz, hdf, hpin⟩ := h
  have hne : rid ≠ id := fun e => by rw [e, ho] at hf; cases hf
  have hslot : ∀ t s, st.slots t = some s → rid ∉ refsOf s := fun t s ht hi => by
    obtain ⟨o, h1⟩ := hwf.slots t s ht rid hi
    rw [hf] at h1; cases h1
  have hcell : ∀ j o, st.objs j = some o → rid ∉ objRefs0 o := fun j o hj hi => by
    obtain ⟨o', h1⟩ := hwf.cells j o hj rid hi
    rw [hf] at h1; cases h1
  have hobj : ∀ i o', (st.ren id rid e es).objs i = some o' → (i = rid ∧ o' = .arr e es) ∨ (i ≠ rid ∧ i ≠ id ∧ ∃ o, st.objs i = some o ∧ o' = renObj id rid o) := by
    intro i o' h
    simp only [St.ren] at h
    by_cases hi : i = rid
    · subst hi; rw [put_same] at h; injection h with h; exact .inl ⟨rfl, h.symm⟩
    · rw [put_other _ _ _ hi] at h
      by_cases hj : i = id
      · subst hj; rw [put_same] at h; cases h
      · rw [put_other _ _ _ hj] at h
        cases hob : st.objs i with
        | none => rw [hob] at h; cases h
        | some o => rw [hob] at h; injection h with h; exact .inr ⟨hi, hj, o, rfl, h.symm⟩
  have hin : ∀ i, (i = rid ∨ (i ≠ id ∧ ∃ o, st.objs i = some o)) → ∃ o', (st.ren id rid e es).objs i = some o' := by
    intro i hi
    simp only [St.ren]
    by_cases he : i = rid
    · subst he; rw [put_same]; exact ⟨_, rfl⟩
    · rw [put_other _ _ _ he]
      rcases hi with hi | ⟨h1, o, h2⟩
      · exact absurd hi he
      · rw [put_other _ _ _ h1, h2]; exact ⟨_, rfl⟩
  have hb : ∀ i o' b, (st.ren id rid e es).objs i = some o' → blockOf (put ι rid (ι id) i) = some b → ∃ j o, st.objs j = some o ∧ blockOf (ι j) = some b ∧ (i = rid → j = id) ∧ (i ≠ rid → j = i ∧ i ≠ id) := by
    intro i o' b h hb
    rcases hobj i o' h with ⟨rfl, rfl⟩ | ⟨h1, h2, o, h3, _⟩
    · rw [put_same] at hb; exact ⟨id, _, ho, hb, fun _ => rfl, fun h => absurd rfl h⟩
    · rw [put_other _ _ _ h1] at hb; exact ⟨i, o, h3, hb, fun h => absurd h h1, fun _ => ⟨rfl, h2⟩⟩
  refine ⟨⟨put ι rid (ι id), M, ⟨?_, ?_, ?_, H.mem, H.memx, H.memB, H.os, H.tape, H.output, H.size, H.keep⟩, ?_⟩, ⟨?_, ?_⟩, hsz, hdf, hpin⟩
  · intro i o' h
    rcases hobj i o' h with ⟨rfl, rfl⟩ | ⟨h1, h2, o, h3, rfl⟩
    · obtain ⟨ei, g1, g2, g3⟩ := H.obj id _ ho
      exact ⟨ei, g1, g2, by rw [put_same]; exact g3⟩
    · exact ren_obj (H.obj i o h3) h1 (hcell i o h3)
  · intro i j oi oj b hi hj hij hbi hbj
    obtain ⟨i', o1, h1, h2, h3, h4⟩ := hb i oi b hi hbi
    obtain ⟨j', o2, g1, g2, g3, g4⟩ := hb j oj b hj hbj
    refine H.disj i' j' o1 o2 b h1 g1 (fun e => ?_) h2 g2
    by_cases hi' : i = rid
    · by_cases hj' : j = rid
      · exact hij (hi'.trans hj'.symm)
      · have := g4 hj'; have := h3 hi'; omega
    · by_cases hj' : j = rid
      · have := h4 hi'; have := g3 hj'; omega
      · have := h4 hi'; have := g4 hj'; omega
  · intro i o' b h hbi
    obtain ⟨j, o, h1, h2, _⟩ := hb i o' b h hbi
    exact H.own j o b h1 h2
  · intro t s ht
    simp only [St.ren] at ht
    cases hst : st.slots t with
    | none => rw [hst] at ht; cases ht
    | some s0 =>
      rw [hst] at ht; injection ht with ht; subst ht
      exact ren_rel (hs t s0 hst) (hslot t s0 hst)
  · intro t s ht i hi
    simp only [St.ren] at ht
    cases hst : st.slots t with
    | none => rw [hst] at ht; cases ht
    | some s0 =>
      rw [hst] at ht; injection ht with ht; subst ht
      rcases refs_ren hi with ⟨h1, _⟩ | ⟨h1, h2⟩
      · exact hin i (.inl h1)
      · exact hin i (.inr ⟨h2, hwf.slots t s0 hst i h1⟩)
  · intro j o' hj i hi
    rcases hobj j o' hj with ⟨rfl, rfl⟩ | ⟨h1, h2, o, h3, rfl⟩
    · cases hi
    · have : i = rid ∨ i ∈ objRefs0 o ∧ i ≠ id := by
        cases o with
        | arr _ _ => cases hi
        | box t c =>
          cases c with
          | whole d => cases hi
          | cells l =>
            obtain ⟨s, hs1, hi⟩ := mem_refsL.1 hi
            obtain ⟨n, hn⟩ := List.mem_iff_getElem?.1 hs1
            rw [renCells_get, Option.map_eq_some_iff] at hn
            obtain ⟨s0, hs0, rfl⟩ := hn
            rcases refs0_ren hi with ⟨g1, _⟩ | ⟨g1, g2⟩
            · exact .inl g1
            · exact .inr ⟨mem_refsL.2 ⟨s0, List.mem_of_getElem? hs0, g1⟩, g2⟩
      rcases this with h | ⟨g1, g2⟩
      · exact hin i (.inl h)
      · exact hin i (.inr ⟨g2, hwf.cells j o h3 i g1⟩)

/-- A cell that holds no row: it holds an empty one. -/
theorem newRow_sound {st : St} {a : Act} {w : World} (h : SI E X w0 Mx pv st a w) {id rid c : Nat} {t e : TypeId} {ei : TI} {l : List SV} (ho : st.objs id = some (.box t (.cells l))) (hc : l[c]? = some .nil) (hei : lk e E.tt = some ei) (hpos : 0 < ei.cells.length) (hf : st.objs rid = none) :
    SI E X w0 Mx pv { st with objs := put (put st.objs id (some (.box t (.cells (l.set c (.own rid)))))) rid (some (.arr e [])) } a w := by
  obtain ⟨⟨ι, M, H, hs⟩, hwf, hsz, hdf, hpin⟩ := h
  have hne : rid ≠ id := fun e => by rw [e, ho] at hf; cases hf
  have hslot : ∀ t s, st.slots t = some s → rid ∉ refsOf s := fun t s ht hi => by
    obtain ⟨o, h1⟩ := hwf.slots t s ht rid hi
    rw [hf] at h1; cases h1
  have hcell : ∀ j o, st.objs j = some o → rid ∉ objRefs0 o := fun j o hj hi => by
    obtain ⟨o', h1⟩ := hwf.cells j o hj rid hi
    rw [hf] at h1; cases h1
  have hobj : ∀ i o', put (put st.objs id (some (.box t (.cells (l.set c (.own rid)))))) rid (some (.arr e [])) i = some o' → (i = rid ∧ o' = .arr e []) ∨ (i = id ∧ o' = .box t (.cells (l.set c (.own rid)))) ∨ (i ≠ rid ∧ i ≠ id ∧ st.objs i = some o') := by
    intro i o' h
    by_cases hi : i = rid
    · subst hi; rw [put_same] at h; injection h with h; exact .inl ⟨rfl, h.symm⟩
    · rw [put_other _ _ _ hi] at h
      by_cases hj : i = id
      · subst hj; rw [put_same] at h; injection h with h; exact .inr (.inl ⟨rfl, h.symm⟩)
      · rw [put_other _ _ _ hj] at h; exact .inr (.inr ⟨hi, hj, h⟩)
  have hin : ∀ i, (∃ o, st.objs i = some o) ∨ i = rid → ∃ o', put (put st.objs id (some (.box t (.cells (l.set c (.own rid)))))) rid (some (.arr e [])) i = some o' := by
    intro i hi
    by_cases he : i = rid
    · subst he; rw [put_same]; exact ⟨_, rfl⟩
    · rw [put_other _ _ _ he]
      by_cases hj : i = id
      · subst hj; rw [put_same]; exact ⟨_, rfl⟩
      · rw [put_other _ _ _ hj]
        rcases hi with hi | hi
        · exact hi
        · exact absurd hi he
  have hb : ∀ i o' b, put (put st.objs id (some (.box t (.cells (l.set c (.own rid)))))) rid (some (.arr e [])) i = some o' → blockOf (put ι rid (.slice none 0 0) i) = some b → i ≠ rid ∧ ∃ o, st.objs i = some o ∧ blockOf (ι i) = some b := by
    intro i o' b h hb
    rcases hobj i o' h with ⟨rfl, rfl⟩ | ⟨rfl, rfl⟩ | ⟨h1, h2, h3⟩
    · rw [put_same] at hb; cases hb
    · rw [put_other _ _ _ (fun e => hne e.symm)] at hb; exact ⟨fun e => hne e.symm, _, ho, hb⟩
    · rw [put_other _ _ _ h1] at hb; exact ⟨h1, _, h3, hb⟩
  refine ⟨⟨put ι rid (.slice none 0 0), M, ⟨?_, ?_, ?_, H.mem, H.memx, H.memB, H.os, H.tape, H.output, H.size, H.keep⟩, ?_⟩, ⟨?_, ?_⟩, hsz, hdf, hpin⟩
  · intro i o' h
    rcases hobj i o' h with ⟨rfl, rfl⟩ | ⟨rfl, rfl⟩ | ⟨h1, h2, h3⟩
    · exact ⟨ei, hei, hpos, .inl ⟨put_same _ _ _, rfl⟩⟩
    · obtain ⟨ti, b, cs, h1, h2, h3, h5, h6, h7⟩ := H.obj i _ ho
      refine ⟨ti, b, cs, h1, by rw [put_other _ _ _ (fun e => hne e.symm)]; exact h2, h3, h5, by rw [List.length_set]; exact h6, fun j s u hj hu => ?_⟩
      by_cases hjc : j = c
      · subst hjc
        have hlt := (List.getElem?_eq_some_iff.1 hc).1
        rw [List.getElem?_set_self hlt] at hj
        injection hj with hj; subst hj
        have hv : u = .slice none 0 0 := h7 j .nil u hc hu
        exact ⟨by rw [put_same]; exact hv, none, 0, 0, put_same _ _ _⟩
      · rw [List.getElem?_set_ne (fun e => hjc e.symm)] at hj
        exact (h7 j s u hj hu).updι (fun hi => hcell i _ ho (mem_refsL.2 ⟨s, List.mem_of_getElem? hj, hi⟩))
    · exact (H.obj i o' h3).keep h1 (hcell i o' h3) (fun _ _ => rfl)
  · intro i j oi oj b hi hj hij hbi hbj
    obtain ⟨_, o1, h1, h2⟩ := hb i oi b hi hbi
    obtain ⟨_, o2, g1, g2⟩ := hb j oj b hj hbj
    exact H.disj i j o1 o2 b h1 g1 hij h2 g2
  · intro i o' b h hbi
    obtain ⟨_, o, h1, h2⟩ := hb i o' b h hbi
    exact H.own i o b h1 h2
  · intro t' s ht
    exact (hs t' s ht).updι (hslot t' s ht)
  · intro t' s ht i hi
    exact hin i (.inl (hwf.slots t' s ht i hi))
  · intro j o' hj i hi
    rcases hobj j o' hj with ⟨rfl, rfl⟩ | ⟨rfl, rfl⟩ | ⟨h1, h2, h3⟩
    · cases hi
    · obtain ⟨s, hs1, hi⟩ := mem_refsL.1 hi
      rcases List.mem_or_eq_of_mem_set hs1 with hs1 | rfl
      · exact hin i (.inl (hwf.cells j _ ho i (mem_refsL.2 ⟨s, hs1, hi⟩)))
      · simp only [refs0, List.mem_singleton] at hi
        exact hin i (.inr hi)
    · exact hin i (.inl (hwf.cells j o' h3 i hi))

theorem rowCell_sound {st st' : St} {a : Act} {w : World} (h : SI E X w0 Mx pv st a w) {x : Nat × Nat × TypeId} (hf : rowCell E.tt st x = some st') : SI E X w0 Mx pv st' a w := by
  obtain ⟨id, c, e⟩ := x
  replace hf : rowCell1 E.tt st id c e = some st' := hf
  unfold rowCell1 at hf
  split at hf
  · rename_i t l ho
    split at hf
    · rename_i hc
      split at hf
      · rename_i ei hei
        replace hf := cond_some.1 hf
        obtain ⟨h1, hf⟩ := hf
        simp only [Bool.and_eq_true] at h1
        injection hf with hf; subst hf
        have hfr : st.objs (cellRow id c) = none := by
          have := h1.2
          unfold fresh at this
          cases hx : st.objs (cellRow id c) with
          | none => rfl
          | some o => rw [hx] at this; cases this
        exact newRow_sound h ho hc hei (Nat.le_of_ble_eq_true h1.1) hfr
      · cases hf
    · rename_i i hc
      cases hb : Nat.beq i (cellRow id c) with
      | true => rw [hb] at hf; injection hf with hf; subst hf; exact h
      | false =>
        rw [hb] at hf
        simp only [cond_false] at hf
        split at hf
        · rename_i e' es hi
          replace hf := cond_some.1 hf
          obtain ⟨h1, hf⟩ := hf
          injection hf with hf; subst hf
          have hfr : st.objs (cellRow id c) = none := by
            unfold fresh at h1
            cases hx : st.objs (cellRow id c) with
            | none => rfl
            | some o => rw [hx] at h1; cases h1
          exact ren_sound h hi hfr
        · cases hf
    · cases hf
  · injection hf with hf; subst hf; exact h
theorem rowCells_sound {a : Act} {w : World} : ∀ (l : List (Nat × Nat × TypeId)) (st st' : St), SI E X w0 Mx pv st a w → rowCells E.tt l st = some st' → SI E X w0 Mx pv st' a w := by
  intro l
  induction l with
  | nil => intro st st' h hf; injection hf with hf; subst hf; exact h
  | cons x r ih =>
    intro st st' h hf
    obtain ⟨st1, h1, hf⟩ := opt_some.1 hf
    exact ih st1 st' (rowCell_sound h h1) hf
end
end Go.Proofs.YtjofkhdnidjleabDoor.DS
