/- Boxes and rows that are handed over: what the callee begins with. -/
import Derived.Test.YtjofkhdnidjleabDoorDuA
set_option linter.unusedVariables false
set_option linter.unusedSimpArgs false
namespace Go.Proofs.YtjofkhdnidjleabDoor.DS

/-- The callee's handles. -/
def ιc (w : World) (vs : List Value) (id : Nat) : Value :=
  if id < 600000 then vs.getD id undef else match vs.getD ((id - 600000) / 64) undef with
    | .pointer (some ad) => (w.cell? ⟨ad.block, (id - 600000) % 64, none⟩).getD undef
    | _ => undef
theorem ιc_param {w : World} {vs : List Value} {p : Nat} {v : Value} (h : vs[p]? = some v) (hp : p ≤ 1000) : ιc w vs p = v := by
  unfold ιc
  rw [if_pos (by omega), List.getD_eq_getElem?_getD, h]; rfl
theorem ιc_row {w : World} {vs : List Value} {p c : Nat} {b : Nat} {u : Value} (h : vs[p]? = some (.pointer (some ⟨b, 0, none⟩))) (hc : c < 64) (hu : w.cell? ⟨b, c, none⟩ = some u) : ιc w vs (rowId p c) = u := by
  unfold ιc rowId
  rw [if_neg (by omega), show (600000 + 64 * p + c - 600000) / 64 = p by omega, show (600000 + 64 * p + c - 600000) % 64 = c by omega, List.getD_eq_getElem?_getD, h]
  simp [hu]

theorem mkCells_get (id : Nat) : ∀ (cs : List CK) (c : Nat) (d : D) (j : Nat), (mkCells id cs c d)[j]? = (cs[j]?).map fun k => match k with
    | .val k => .val k (canon k (d.cell (c + j)))
    | .row _ => .own (rowId id (c + j))
    | .self => .selfn id := by
  intro cs
  induction cs with
  | nil => intro c d j; simp [mkCells]
  | cons k r ih =>
    intro c d j
    cases j with
    | zero => cases k <;> simp [mkCells]
    | succ j => cases k <;> simp [mkCells, ih, show c + 1 + j = c + (j + 1) by omega]
theorem mkCells_length (id : Nat) : ∀ (cs : List CK) (c : Nat) (d : D), (mkCells id cs c d).length = cs.length := by
  intro cs
  induction cs with
  | nil => intro c d; rfl
  | cons k r ih => intro c d; cases k <;> simp [mkCells, ih]
theorem rowObjs_lk (id : Nat) : ∀ (cs : List CK) (c : Nat) (d : D) (i : Nat) (o : Obj), lk i (rowObjs id cs c d) = some o → ∃ j e, cs[j]? = some (.row e) ∧ i = rowId id (c + j) ∧ o = .arr e (d.cell (c + j)).toList := by
  intro cs
  induction cs with
  | nil => intro c d i o h; cases h
  | cons k r ih =>
    intro c d i o h
    have next : lk i (rowObjs id r (c + 1) d) = some o → ∃ j e, (k :: r)[j]? = some (.row e) ∧ i = rowId id (c + j) ∧ o = .arr e (d.cell (c + j)).toList := by
      intro h
      obtain ⟨j, e, h1, h2, h3⟩ := ih (c + 1) d i o h
      exact ⟨j + 1, e, by simpa using h1, by rw [h2]; congr 1; omega, by rw [h3]; congr 3; omega⟩
    cases k with
    | row e =>
      simp only [rowObjs, lk] at h
      cases hb : Nat.beq i (rowId id c) with
      | true =>
        rw [hb] at h; injection h with h; subst h
        exact ⟨0, e, rfl, by simpa using beq_iff.1 hb, by simp⟩
      | false => rw [hb] at h; exact next h
    | _ => exact next h
theorem rowObjs_there (id : Nat) : ∀ (cs : List CK) (c : Nat) (d : D) (j : Nat) (e : TypeId), cs[j]? = some (.row e) → ∃ o, lk (rowId id (c + j)) (rowObjs id cs c d) = some o := by
  intro cs
  induction cs with
  | nil => intro c d j e h; simp at h
  | cons k r ih =>
    intro c d j e h
    cases j with
    | zero =>
      simp at h; subst h
      exact ⟨.arr e (d.cell c).toList, by simp only [rowObjs, lk, Nat.add_zero, beq_self, cond_true]⟩
    | succ j =>
      obtain ⟨o, ho⟩ := ih (c + 1) d j e (by simpa using h)
      rw [show c + 1 + j = c + (j + 1) by omega] at ho
      cases k with
      | row e' =>
        simp only [rowObjs, lk]
        cases hb : Nat.beq (rowId id (c + (j + 1))) (rowId id c) with
        | true => exact ⟨_, rfl⟩
        | false => exact ⟨o, ho⟩
      | _ => exact ⟨o, ho⟩
theorem mkCells_refs {id : Nat} {cs : List CK} {c : Nat} {d : D} {i : Nat} (h : i ∈ refsL (mkCells id cs c d)) : i = id ∨ ∃ j e, cs[j]? = some (.row e) ∧ i = rowId id (c + j) := by
  obtain ⟨s, hs, hi⟩ := mem_refsL.1 h
  obtain ⟨j, hj⟩ := List.getElem?_of_mem hs
  rw [mkCells_get, Option.map_eq_some_iff] at hj
  obtain ⟨k, hk, rfl⟩ := hj
  cases k with
  | val k => cases hi
  | row e => simp [refs0] at hi; exact .inr ⟨j, e, hk, hi⟩
  | self => simp [refs0] at hi; exact .inl hi

section
variable {P : Program} {E : Env} (hT : TTok P E.tt) {st : St} {ops : List Oper} {a : Act} {w w0 : World} {X : Nat → Prop} {Mx : Mem} {ι : Nat → Value} {M : Mem}

def CellOK (E : Env) (st : St) (ι ιn : Nat → Value) (M : Mem) (w : World) (crs : List (Nat × Nat)) (p c : Nat) (u : Value) (d0 : D) : CK → Prop
  | .val q => Rep E.tt M q u d0
  | .row e => ObjRel E.tt ιn M w (rowId p c) (.arr e d0.toList) ∧ (ιn (rowId p c) = .slice none 0 0 ∨ ∃ i, (rowId p c, i) ∈ crs ∧ (∃ o, st.objs i = some o) ∧ ιn (rowId p c) = ι i) ∧ (∃ x n y, u = .slice x n y) ∧ ιn (rowId p c) = u
  | .self => SVRel0 E.tt ιn M (.selfn p) u
/-- A box's cells. -/
theorem cellArgs_ok (H : HRel E.tt X w0 Mx ι M st.objs w) {ιn : Nat → Value} {id p : Nat} (hid : ιn p = ι id) : ∀ (cs : List CK) (c : Nat) (ss : List SV) (cds : List D) (crs : List (Nat × Nat)) (cc : List Value), cellArgs E st id p c cs ss = some (cds, crs) → cc.length = ss.length →
    (∀ (j : Nat) s u, ss[j]? = some s → cc[j]? = some u → SVRel0 E.tt ι M s u) → (∀ (j : Nat) u, cc[j]? = some u → ιn (rowId p (c + j)) = u) →
    cs.length = ss.length ∧ cds.length = cs.length ∧ ∀ (j : Nat) k s u d0, cs[j]? = some k → ss[j]? = some s → cc[j]? = some u → cds[j]? = some d0 → CellOK E st ι ιn M w crs p (c + j) u d0 k := by
  intro cs
  induction cs with
  | nil =>
    intro c ss cds crs cc h hl hr hi
    cases ss with
    | nil => injection h with h; injection h with h1 h2; subst h1 h2; exact ⟨rfl, rfl, fun j k s u d0 hk => by simp at hk⟩
    | cons _ _ => cases h
  | cons k cs ih =>
    intro c ss cds crs cc h hl hr hi
    cases ss with
    | nil => cases k <;> cases h
    | cons s ss =>
      cases cc with
      | nil => simp at hl
      | cons u cc =>
        have step : ∀ d0 cds' crs' crs0, cellArgs E st id p (c + 1) cs ss = some (cds', crs0) → cds = d0 :: cds' → (∀ x ∈ crs0, x ∈ crs) → crs' = crs → CellOK E st ι ιn M w crs p c u d0 k → (k :: cs).length = (s :: ss).length ∧ cds.length = (k :: cs).length ∧ ∀ (j : Nat) k' s' u' d', (k :: cs)[j]? = some k' → (s :: ss)[j]? = some s' → (u :: cc)[j]? = some u' → cds[j]? = some d' → CellOK E st ι ιn M w crs p (c + j) u' d' k' := by
          intro d0 cds' crs' crs0 hrec hcds hsub _ hhead
          subst hcds
          obtain ⟨q1, q2, q3⟩ := ih (c + 1) ss cds' crs0 cc hrec (by simpa using hl) (fun j s u hs hu => hr (j + 1) s u (by simpa using hs) (by simpa using hu)) (fun j u hu => by
            rw [show c + 1 + j = c + (j + 1) by omega]; exact hi (j + 1) u (by simpa using hu))
          refine ⟨by simp [q1], by simp [q2], fun j k' s' u' d' h1 h2 h3 h4 => ?_⟩
          cases j with
          | zero =>
            simp at h1 h2 h3 h4
            subst h1 h2 h3 h4
            exact hhead
          | succ j =>
            have := q3 j k' s' u' d' (by simpa using h1) (by simpa using h2) (by simpa using h3) (by simpa using h4)
            rw [show c + 1 + j = c + (j + 1) by omega] at this
            cases k' with
            | row e =>
              obtain ⟨r1, r2, r3⟩ := this
              refine ⟨r1, ?_, r3⟩
              rcases r2 with r2 | ⟨i, r4, r5⟩
              · exact .inl r2
              · exact .inr ⟨i, hsub _ r4, r5⟩
            | _ => exact this
        have h0 := hr 0 s u rfl rfl
        have hu0 : ιn (rowId p c) = u := by simpa using hi 0 u rfl
        cases k with
        | val q =>
          simp only [cellArgs] at h
          replace h := opt_some.1 h
          obtain ⟨d, hd, h⟩ := h
          replace h := opt_some.1 h
          obtain ⟨x, hx, h⟩ := h
          injection h with h; injection h with h1 h2; subst h1 h2
          exact step d x.1 x.2 x.2 hx rfl (fun _ h => h) rfl (svD1_rel hd h0)
        | row e =>
          simp only [cellArgs] at h
          cases s with
          | nil =>
            simp only at h
            cases hei : lk e E.tt with
            | none => rw [hei] at h; cases h
            | some ei =>
              rw [hei] at h
              replace h := cond_some.1 h
              obtain ⟨hle, h⟩ := h
              replace h := opt_some.1 h
              obtain ⟨x, hx, h⟩ := h
              injection h with h; injection h with h1 h2; subst h1 h2
              have hu : u = .slice none 0 0 := h0
              refine step (.list []) x.1 x.2 x.2 hx rfl (fun _ h => h) rfl ⟨?_, .inl (by rw [hu0, hu]), ⟨_, _, _, hu⟩, hu0⟩
              exact ⟨ei, hei, Nat.le_of_ble_eq_true hle, .inl ⟨by rw [hu0, hu], rfl⟩⟩
          | own i =>
            simp only at h
            cases hob : st.objs i with
            | none => rw [hob] at h; cases h
            | some o =>
              rw [hob] at h
              cases o with
              | box _ _ => cases h
              | arr e' es =>
                replace h := cond_some.1 h
                obtain ⟨he, h⟩ := h
                have he := beq_iff.1 he
                subst he
                replace h := opt_some.1 h
                obtain ⟨x, hx, h⟩ := h
                injection h with h; injection h with h1 h2; subst h1 h2
                obtain ⟨hu, y1, y2, y3, hy⟩ := h0
                refine step (.list es) x.1 _ x.2 hx rfl (fun _ h => List.mem_cons_of_mem _ h) rfl ⟨?_, .inr ⟨i, List.mem_cons_self, ⟨_, hob⟩, by rw [hu0, hu]⟩, ⟨_, _, _, hu.trans hy⟩, hu0⟩
                obtain ⟨ei, q1, q2, q3⟩ := H.obj i _ hob
                exact ⟨ei, q1, q2, by rw [hu0, hu]; exact q3⟩
          | _ => cases h
        | self =>
          simp only [cellArgs] at h
          cases s with
          | selfn i =>
            simp only at h
            replace h := cond_some.1 h
            obtain ⟨he, h⟩ := h
            have he := beq_iff.1 he
            subst he
            replace h := opt_some.1 h
            obtain ⟨x, hx, h⟩ := h
            injection h with h; injection h with h1 h2; subst h1 h2
            refine step .no x.1 x.2 x.2 hx rfl (fun _ h => h) rfl ?_
            rcases h0 with h0 | ⟨b, h1, h2⟩
            · exact .inl h0
            · exact .inr ⟨b, by rw [hid]; exact h1, h2⟩
          | _ => cases h
end
end Go.Proofs.YtjofkhdnidjleabDoor.DS
