/- The data-level semantics: plain data, an interpreter of the program over them, and its soundness; part 5. -/
import Derived.Test.YtcmeincdmphaoaaDoorF4
set_option linter.unusedVariables false
set_option linter.unusedSimpArgs false
namespace Go.Proofs.YtcmeincdmphaoaaDoor.DS

/-- The callee's handles. -/
def ιc (w : World) (vs : List Value) (id : Nat) : Value :=
  if id < 600000 then vs.getD id undef else match vs.getD ((id - 600000) / 64) undef with
    | .pointer (some ad) => (w.cell? ⟨ad.block, (id - 600000) % 64, none⟩).getD undef
    | _ => undef
theorem ιc_param {w : World} {vs : List Value} {p : Nat} {v : Value} (h : vs[p]? = some v) (hp : p ≤ 1000) : ιc w vs p = v := by
  unfold ιc
  rw [if_pos (by omega), List.getD_eq_getElem?_getD, h]; rfl
theorem ιc_row {w : World} {vs : List Value} {p c : Nat} {b : Nat} {u : Value} (h : vs[p]? = some (.pointer (some ⟨b, 0, none⟩))) (hc : c < 64) (hu : w.cell? ⟨b, c, none⟩ = some u) : ιc w vs (rowId p c) = u := by
  unfold ιc rowId
  rw [if_neg (by omega), show (600000 + 64 * p + c - 600000) / 64 = p by omega, show (600000 + 64 * p + c - 600000) % 64 = c by omega, List.getD_eq_getElem?_getD, h]
  simp [hu]

theorem mkCells_get (id : Nat) : ∀ (cs : List CK) (c : Nat) (d : D) (j : Nat), (mkCells id cs c d)[j]? = (cs[j]?).map fun k => match k with
    | .val k => .val k (canon k (d.cell (c + j)))
    | .row _ => .own (rowId id (c + j))
    | .self => .selfn id
    | .lent => .gone := by
  intro cs
  induction cs with
  | nil => intro c d j; simp [mkCells]
  | cons k r ih =>
    intro c d j
    cases j with
    | zero => cases k <;> simp [mkCells]
    | succ j => cases k <;> simp [mkCells, ih, show c + 1 + j = c + (j + 1) by omega]
theorem mkCells_length (id : Nat) : ∀ (cs : List CK) (c : Nat) (d : D), (mkCells id cs c d).length = cs.length := by
  intro cs
  induction cs with
  | nil => intro c d; rfl
  | cons k r ih => intro c d; cases k <;> simp [mkCells, ih]
theorem rowObjs_lk (id : Nat) : ∀ (cs : List CK) (c : Nat) (d : D) (i : Nat) (o : Obj), lk i (rowObjs id cs c d) = some o → ∃ j e, cs[j]? = some (.row e) ∧ i = rowId id (c + j) ∧ o = .arr e (d.cell (c + j)).toList := by
  intro cs
  induction cs with
  | nil => intro c d i o h; cases h
  | cons k r ih =>
    intro c d i o h
    have next : lk i (rowObjs id r (c + 1) d) = some o → ∃ j e, (k :: r)[j]? = some (.row e) ∧ i = rowId id (c + j) ∧ o = .arr e (d.cell (c + j)).toList := by
      intro h
      obtain ⟨j, e, h1, h2, h3⟩ := ih (c + 1) d i o h
      exact ⟨j + 1, e, by simpa using h1, by rw [h2]; congr 1; omega, by rw [h3]; congr 3; omega⟩
    cases k with
    | row e =>
      simp only [rowObjs, lk] at h
      cases hb : Nat.beq i (rowId id c) with
      | true =>
        rw [hb] at h; injection h with h; subst h
        exact ⟨0, e, rfl, by simpa using beq_iff.1 hb, by simp⟩
      | false => rw [hb] at h; exact next h
    | _ => exact next h
theorem rowObjs_there (id : Nat) : ∀ (cs : List CK) (c : Nat) (d : D) (j : Nat) (e : TypeId), cs[j]? = some (.row e) → ∃ o, lk (rowId id (c + j)) (rowObjs id cs c d) = some o := by
  intro cs
  induction cs with
  | nil => intro c d j e h; simp at h
  | cons k r ih =>
    intro c d j e h
    cases j with
    | zero =>
      simp at h; subst h
      exact ⟨.arr e (d.cell c).toList, by simp only [rowObjs, lk, Nat.add_zero, beq_self, cond_true]⟩
    | succ j =>
      obtain ⟨o, ho⟩ := ih (c + 1) d j e (by simpa using h)
      rw [show c + 1 + j = c + (j + 1) by omega] at ho
      cases k with
      | row e' =>
        simp only [rowObjs, lk]
        cases hb : Nat.beq (rowId id (c + (j + 1))) (rowId id c) with
        | true => exact ⟨_, rfl⟩
        | false => exact ⟨o, ho⟩
      | _ => exact ⟨o, ho⟩
theorem mkCells_refs {id : Nat} {cs : List CK} {c : Nat} {d : D} {i : Nat} (h : i ∈ refsL (mkCells id cs c d)) : i = id ∨ ∃ j e, cs[j]? = some (.row e) ∧ i = rowId id (c + j) := by
  obtain ⟨s, hs, hi⟩ := mem_refsL.1 h
  obtain ⟨j, hj⟩ := List.getElem?_of_mem hs
  rw [mkCells_get, Option.map_eq_some_iff] at hj
  obtain ⟨k, hk, rfl⟩ := hj
  cases k with
  | val k => cases hi
  | row e => simp [refs0] at hi; exact .inr ⟨j, e, hk, hi⟩
  | self => simp [refs0] at hi; exact .inl hi
  | lent => cases hi
theorem isLent_eq : ∀ {cs : List CK}, isLent cs = true → cs = [.lent]
  | [.lent], _ => rfl
  | [], h => by cases h
  | .val _ :: _, h => by cases h
  | .row _ :: _, h => by cases h
  | .self :: _, h => by cases h
  | .lent :: _ :: _, h => by cases h
theorem cellArgs_lent {E : Env} {st : St} {id p c : Nat} {cs : List CK} {ss : List SV} {y : List D × List (Nat × Nat)} (h : cellArgs E st id p c cs ss = some y) : isLent cs = false := by
  cases hz : isLent cs with
  | false => rfl
  | true => rw [isLent_eq hz] at h; cases ss <;> cases h

section
variable {P : Program} {E : Env} (hT : TTok P E.tt) {st : St} {ops : List Oper} {a : Act} {w w0 : World} {X : Nat → Prop} {Mx : Mem} {ι : Nat → Value} {M : Mem}

def CellOK (E : Env) (st : St) (ι ιn : Nat → Value) (M : Mem) (w : World) (crs : List (Nat × Nat)) (p c : Nat) (u : Value) (d0 : D) : CK → Prop
  | .val q => Rep E.tt M q u d0
  | .row e => ObjRel E.tt ιn M w (rowId p c) (.arr e d0.toList) ∧ (ιn (rowId p c) = .slice none 0 0 ∨ ∃ i, (rowId p c, i) ∈ crs ∧ (∃ o, st.objs i = some o) ∧ ιn (rowId p c) = ι i) ∧ (∃ x n y, u = .slice x n y) ∧ ιn (rowId p c) = u
  | .self => SVRel0 E.tt ιn M (.selfn p) u
  | .lent => False
/-- A box's cells. -/
theorem cellArgs_ok (H : HRel E.tt X w0 Mx ι M st.objs w) {ιn : Nat → Value} {id p : Nat} (hid : ιn p = ι id) : ∀ (cs : List CK) (c : Nat) (ss : List SV) (cds : List D) (crs : List (Nat × Nat)) (cc : List Value), cellArgs E st id p c cs ss = some (cds, crs) → cc.length = ss.length →
    (∀ (j : Nat) s u, ss[j]? = some s → cc[j]? = some u → SVRel0 E.tt ι M s u) → (∀ (j : Nat) u, cc[j]? = some u → ιn (rowId p (c + j)) = u) →
    cs.length = ss.length ∧ cds.length = cs.length ∧ ∀ (j : Nat) k s u d0, cs[j]? = some k → ss[j]? = some s → cc[j]? = some u → cds[j]? = some d0 → CellOK E st ι ιn M w crs p (c + j) u d0 k := by
  intro cs
  induction cs with
  | nil =>
    intro c ss cds crs cc h hl hr hi
    cases ss with
    | nil => injection h with h; injection h with h1 h2; subst h1 h2; exact ⟨rfl, rfl, fun j k s u d0 hk => by simp at hk⟩
    | cons _ _ => cases h
  | cons k cs ih =>
    intro c ss cds crs cc h hl hr hi
    cases ss with
    | nil => cases k <;> cases h
    | cons s ss =>
      cases cc with
      | nil => simp at hl
      | cons u cc =>
        have step : ∀ d0 cds' crs' crs0, cellArgs E st id p (c + 1) cs ss = some (cds', crs0) → cds = d0 :: cds' → (∀ x ∈ crs0, x ∈ crs) → crs' = crs → CellOK E st ι ιn M w crs p c u d0 k → (k :: cs).length = (s :: ss).length ∧ cds.length = (k :: cs).length ∧ ∀ (j : Nat) k' s' u' d', (k :: cs)[j]? = some k' → (s :: ss)[j]? = some s' → (u :: cc)[j]? = some u' → cds[j]? = some d' → CellOK E st ι ιn M w crs p (c + j) u' d' k' := by
          intro d0 cds' crs' crs0 hrec hcds hsub _ hhead
          subst hcds
          obtain ⟨q1, q2, q3⟩ := ih (c + 1) ss cds' crs0 cc hrec (by simpa using hl) (fun j s u hs hu => hr (j + 1) s u (by simpa using hs) (by simpa using hu)) (fun j u hu => by
            rw [show c + 1 + j = c + (j + 1) by omega]; exact hi (j + 1) u (by simpa using hu))
          refine ⟨by simp [q1], by simp [q2], fun j k' s' u' d' h1 h2 h3 h4 => ?_⟩
          cases j with
          | zero =>
            simp at h1 h2 h3 h4
            subst h1 h2 h3 h4
            exact hhead
          | succ j =>
            have := q3 j k' s' u' d' (by simpa using h1) (by simpa using h2) (by simpa using h3) (by simpa using h4)
            rw [show c + 1 + j = c + (j + 1) by omega] at this
            cases k' with
            | row e =>
              obtain ⟨r1, r2, r3⟩ := this
              refine ⟨r1, ?_, r3⟩
              rcases r2 with r2 | ⟨i, r4, r5⟩
              · exact .inl r2
              · exact .inr ⟨i, hsub _ r4, r5⟩
            | _ => exact this
        have h0 := hr 0 s u rfl rfl
        have hu0 : ιn (rowId p c) = u := by simpa using hi 0 u rfl
        cases k with
        | lent => cases h
        | val q =>
          simp only [cellArgs] at h
          replace h := opt_some.1 h
          obtain ⟨d, hd, h⟩ := h
          replace h := opt_some.1 h
          obtain ⟨x, hx, h⟩ := h
          injection h with h; injection h with h1 h2; subst h1 h2
          exact step d x.1 x.2 x.2 hx rfl (fun _ h => h) rfl (svD1_rel hd h0)
        | row e =>
          simp only [cellArgs] at h
          cases s with
          | nil =>
            simp only at h
            cases hei : lk e E.tt with
            | none => rw [hei] at h; cases h
            | some ei =>
              rw [hei] at h
              replace h := cond_some.1 h
              obtain ⟨hle, h⟩ := h
              replace h := opt_some.1 h
              obtain ⟨x, hx, h⟩ := h
              injection h with h; injection h with h1 h2; subst h1 h2
              have hu : u = .slice none 0 0 := h0
              refine step (.list []) x.1 x.2 x.2 hx rfl (fun _ h => h) rfl ⟨?_, .inl (by rw [hu0, hu]), ⟨_, _, _, hu⟩, hu0⟩
              exact ⟨ei, hei, Nat.le_of_ble_eq_true hle, .inl ⟨by rw [hu0, hu], rfl⟩⟩
          | own i =>
            simp only at h
            cases hob : st.objs i with
            | none => rw [hob] at h; cases h
            | some o =>
              rw [hob] at h
              cases o with
              | map _ _ => cases h
              | box _ _ => cases h
              | arr e' es =>
                replace h := cond_some.1 h
                obtain ⟨he, h⟩ := h
                have he := beq_iff.1 he
                subst he
                replace h := opt_some.1 h
                obtain ⟨x, hx, h⟩ := h
                injection h with h; injection h with h1 h2; subst h1 h2
                obtain ⟨hu, y1, y2, y3, hy⟩ := h0
                refine step (.list es) x.1 _ x.2 hx rfl (fun _ h => List.mem_cons_of_mem _ h) rfl ⟨?_, .inr ⟨i, List.mem_cons_self, ⟨_, hob⟩, by rw [hu0, hu]⟩, ⟨_, _, _, hu.trans hy⟩, hu0⟩
                obtain ⟨ei, q1, q2, q3⟩ := H.obj i _ hob
                exact ⟨ei, q1, q2, by rw [hu0, hu]; exact q3⟩
          | _ => cases h
        | self =>
          simp only [cellArgs] at h
          cases s with
          | selfn i =>
            simp only at h
            replace h := cond_some.1 h
            obtain ⟨he, h⟩ := h
            have he := beq_iff.1 he
            subst he
            replace h := opt_some.1 h
            obtain ⟨x, hx, h⟩ := h
            injection h with h; injection h with h1 h2; subst h1 h2
            refine step .no x.1 x.2 x.2 hx rfl (fun _ h => h) rfl ?_
            rcases h0 with h0 | ⟨b, h1, h2⟩
            · exact .inl h0
            · exact .inr ⟨b, by rw [hid]; exact h1, h2⟩
          | _ => cases h
end
end Go.Proofs.YtcmeincdmphaoaaDoor.DS

namespace Go.Proofs.YtcmeincdmphaoaaDoor.DS

theorem boxesP_congr {bid bid' : Nat → Nat} : ∀ (ps : List PM) (p : Nat), (∀ q, p ≤ q → bid q = bid' q) → boxesP bid p ps = boxesP bid' p ps := by
  intro ps
  induction ps with
  | nil => intro p h; rfl
  | cons x r ih =>
    intro p h
    cases x with
    | box t cs => simp only [boxesP, h p (Nat.le_refl _), ih (p + 1) (fun q hq => h q (by omega))]
    | _ => exact ih (p + 1) (fun q hq => h q (by omega))
theorem boxIds_mem {bid : Nat → Nat} : ∀ (ps : List PM) (p q : Nat) (t : TypeId) (cs : List CK), ps[q]? = some (.box t cs) → bid (p + q) ∈ boxIds (boxesP bid p ps) := by
  intro ps
  induction ps with
  | nil => intro p q t cs h; simp at h
  | cons x r ih =>
    intro p q t cs h
    cases q with
    | zero => simp at h; subst h; exact List.mem_cons_self
    | succ q =>
      have := ih (p + 1) q t cs (by simpa using h)
      rw [show p + 1 + q = p + (q + 1) by omega] at this
      cases x with
      | box t' cs' => exact List.mem_cons_of_mem _ this
      | _ => exact this
theorem boxIds_inj {bid : Nat → Nat} : ∀ (ps : List PM) (p q q' : Nat) (t t' : TypeId) (cs cs' : List CK), (boxIds (boxesP bid p ps)).Nodup → ps[q]? = some (.box t cs) → ps[q']? = some (.box t' cs') → bid (p + q) = bid (p + q') → q = q' := by
  intro ps
  induction ps with
  | nil => intro p q q' t t' cs cs' _ h; simp at h
  | cons x r ih =>
    intro p q q' t t' cs cs' hn h h' he
    have tail : (boxIds (boxesP bid (p + 1) r)).Nodup := by
      cases x with
      | box _ _ => exact (List.nodup_cons.1 hn).2
      | _ => exact hn
    cases q with
    | zero =>
      cases q' with
      | zero => rfl
      | succ q' =>
        simp at h; subst h
        have := boxIds_mem (bid := bid) r (p + 1) q' t' cs' (by simpa using h')
        rw [show p + 1 + q' = p + (q' + 1) by omega, ← he] at this
        exact absurd this (List.nodup_cons.1 hn).1
    | succ q =>
      cases q' with
      | zero =>
        simp at h'; subst h'
        have := boxIds_mem (bid := bid) r (p + 1) q t cs (by simpa using h)
        rw [show p + 1 + q = p + (q + 1) by omega, he] at this
        exact absurd this (List.nodup_cons.1 hn).1
      | succ q' =>
        have := ih (p + 1) q q' t t' cs cs' tail (by simpa using h) (by simpa using h') (by rw [show p + 1 + q = p + (q + 1) by omega, show p + 1 + q' = p + (q' + 1) by omega]; exact he)
        omega
theorem sndL_mem {rs : List (Nat × Nat)} {a j : Nat} (h : (a, j) ∈ rs) : j ∈ sndL rs := by
  induction rs with
  | nil => cases h
  | cons x r ih =>
    obtain ⟨b, k⟩ := x
    rcases List.mem_cons.1 h with h | h
    · injection h with h1 h2; subst h2; exact List.mem_cons_self
    · exact List.mem_cons_of_mem _ (ih h)
theorem sndL_inj {rs : List (Nat × Nat)} {a b j : Nat} (hn : (sndL rs).Nodup) (h : (a, j) ∈ rs) (h' : (b, j) ∈ rs) : a = b := by
  induction rs with
  | nil => cases h
  | cons x r ih =>
    obtain ⟨c, k⟩ := x
    obtain ⟨h1, h2⟩ := List.nodup_cons.1 (show (k :: sndL r).Nodup from hn)
    rcases List.mem_cons.1 h with g | g <;> rcases List.mem_cons.1 h' with g' | g'
    · injection g with e1 e2; injection g' with e3 e4; omega
    · injection g with e1 e2; subst e2; exact absurd (sndL_mem g') h1
    · injection g' with e1 e2; subst e2; exact absurd (sndL_mem g) h1
    · exact ih h2 g g'

section
variable {P : Program} {E : Env} (hT : TTok P E.tt) {st : St} {ops : List Oper} {a : Act} {w w0 : World} {X : Nat → Prop} {Mx : Mem} {ι : Nat → Value} {M : Mem} {vs : List Value}

structure HArgs (E : Env) (st : St) (w : World) (ι : Nat → Value) (M : Mem) (vs : List Value) (p : Nat) (ps : List PM) (ds : List D) (rs : List (Nat × Nat)) (boxes : List (Nat × TypeId × List CK)) : Prop where
  ex : ∃ sl os, ∃ bid : Nat → Nat, paramSt ps p ds = some (sl, os) ∧
    (∀ t s, lk t sl = some s → (∃ v, vs[t]? = some v ∧ SVRel E.tt (ιc w vs) M s v) ∧ ∀ i, i ∈ refsOf s → ∃ o, lk i os = some o) ∧
    (∀ j o, lk j os = some o → ∀ i, i ∈ objRefs0 o → ∃ o', lk i os = some o') ∧
    (∀ id o, lk id os = some o → ObjRel E.tt (ιc w vs) M w id o ∧ (ιc w vs id = .slice none 0 0 ∨ (∃ i, (id, i) ∈ rs ∧ (∃ o, st.objs i = some o) ∧ ιc w vs id = ι i) ∨ ∃ q t cs, ps[q]? = some (.box t cs) ∧ id = p + q ∧ ιc w vs id = ι (bid (p + q)))) ∧
    boxes = boxesP bid p ps ∧ ∀ q t cs, ps[q]? = some (.box t cs) → (∃ o, st.objs (bid (p + q)) = some o) ∧ vs[p + q]? = some (ι (bid (p + q)))

include hT in
theorem hargs_ind {L : List (Nat × Bool)} (hev : ∀ x s, ev st ops L x = some s → SVRel E.tt ι M s (a.eval x)) (H : HRel E.tt X w0 Mx ι M st.objs w) : ∀ (ps : List PM) (p : Nat) (xs : List Operand) ds rs boxes, hargsO E st ops L p ps xs = some (ds, rs, boxes) →
    (∀ (q : Nat) x, xs[q]? = some x → vs[p + q]? = some (a.eval x)) → xs.length = ps.length ∧ HArgs E st w ι M vs p ps ds rs boxes := by
  intro ps
  induction ps with
  | nil =>
    intro p xs ds rs boxes h _
    cases xs with
    | nil =>
      injection h with h; injection h with h1 h; injection h with h2 h3; subst h1 h2 h3
      exact ⟨rfl, [], [], fun _ => 0, rfl, fun t s h => (by cases h), fun j o h => (by cases h), fun id o h => (by cases h), rfl, fun q t cs h => by simp at h⟩
    | cons _ _ => cases h
  | cons pm ps ih =>
    intro p xs ds rs boxes h hvs
    cases xs with
    | nil => cases pm <;> cases h
    | cons x0 xs =>
      have hv0 : vs[p]? = some (a.eval x0) := hvs 0 x0 rfl
      have hvs' : ∀ (q : Nat) y, xs[q]? = some y → vs[p + 1 + q]? = some (a.eval y) := fun q y hy => by
        rw [show p + 1 + q = p + (q + 1) by omega]; exact hvs (q + 1) y (by simpa using hy)
      have up : ∀ {ps : List PM} {pm : PM} {q : Nat} {t : TypeId} {cs : List CK}, ps[q]? = some (.box t cs) → (pm :: ps)[q + 1]? = some (.box t cs) := fun h => by simpa using h
      cases pm with
      | ref k => cases h
      | val k =>
        simp only [hargsO] at h
        replace h := opt_some.1 h
        obtain ⟨s, hs, h⟩ := h
        replace h := opt_some.1 h
        obtain ⟨d, hd, h⟩ := h
        replace h := opt_some.1 h
        obtain ⟨r, hr, h⟩ := h
        injection h with h; injection h with h1 h; injection h with h2 h3; subst h1 h2 h3
        obtain ⟨hl, sl, os, bid, q1, q2, q3, q4, q5, q6⟩ := ih (p + 1) xs r.1 r.2.1 r.2.2 hr hvs'
        have hrep := svD_rel hd (hev x0 s hs)
        refine ⟨by simp [hl], (p, .val k (canon k d)) :: sl, os, bid, by simp only [paramSt, q1, opt], ?_, q3, ?_, q5, ?_⟩
        · intro t s1 ht
          simp only [lk] at ht
          cases hb : Nat.beq t p with
          | true =>
            rw [hb] at ht; injection ht with ht; subst ht
            have := beq_iff.1 hb; subst this
            refine ⟨⟨_, hv0, ?_⟩, fun i hi => by cases hi⟩
            show Rep E.tt M k _ (canon k d)
            rw [hrep.canon]; exact hrep
          | false => rw [hb] at ht; exact q2 t s1 ht
        · intro id o ho
          obtain ⟨r1, r2⟩ := q4 id o ho
          refine ⟨r1, ?_⟩
          rcases r2 with r2 | r2 | ⟨q, t, cs, r3, r4, r5⟩
          · exact .inl r2
          · exact .inr (.inl r2)
          · exact .inr (.inr ⟨q + 1, t, cs, up r3, by omega, by rw [r5]; congr 2; omega⟩)
        · intro q t cs hq
          cases q with
          | zero => simp at hq
          | succ q =>
            have := q6 q t cs (by simpa using hq)
            rw [show p + (q + 1) = p + 1 + q by omega]; exact this
      | own e =>
        simp only [hargsO] at h
        replace h := opt_some.1 h
        obtain ⟨s, hs, h⟩ := h
        have hsv := hev x0 s hs
        have fin : ∀ es r, hargsO E st ops L (p + 1) ps xs = some r → ds = .list es :: r.1 → boxes = r.2.2 → (∀ y ∈ r.2.1, y ∈ rs) → p ≤ 1000 → (∃ x n y, a.eval x0 = .slice x n y) → ObjRel E.tt (ιc w vs) M w p (.arr e es) →
            (ιc w vs p = .slice none 0 0 ∨ ∃ i, (p, i) ∈ rs ∧ (∃ o, st.objs i = some o) ∧ ιc w vs p = ι i) → (x0 :: xs).length = (PM.own e :: ps).length ∧ HArgs E st w ι M vs p (.own e :: ps) ds rs boxes := by
          intro es r hr hds hbx hsub hp hsl hob hsrc
          obtain ⟨hl, sl, os, bid, q1, q2, q3, q4, q5, q6⟩ := ih (p + 1) xs r.1 r.2.1 r.2.2 hr hvs'
          subst hds
          have hιp : ιc w vs p = a.eval x0 := ιc_param hv0 hp
          refine ⟨by simp [hl], (p, .own p) :: sl, (p, .arr e es) :: os, bid, by simp only [paramSt, q1, opt, D.toList], ?_, ?_, ?_, by rw [hbx, q5]; rfl, ?_⟩
          · have hin : ∀ i o, lk i os = some o → ∃ o, lk i ((p, Obj.arr e es) :: os) = some o := by
              intro i o ho
              simp only [lk]
              cases hb : Nat.beq i p with
              | true => exact ⟨_, rfl⟩
              | false => exact ⟨o, ho⟩
            intro t s1 ht
            simp only [lk] at ht
            cases hb : Nat.beq t p with
            | true =>
              rw [hb] at ht; injection ht with ht; subst ht
              have := beq_iff.1 hb; subst this
              refine ⟨⟨_, hv0, hιp.symm, by rw [hιp]; exact hsl⟩, fun i hi => ?_⟩
              simp [refsOf, refs0] at hi; subst hi
              exact ⟨.arr e es, by simp only [lk, beq_self, cond_true]⟩
            | false =>
              rw [hb] at ht
              obtain ⟨r1, r2⟩ := q2 t s1 ht
              exact ⟨r1, fun i hi => by obtain ⟨o, ho⟩ := r2 i hi; exact hin i o ho⟩
          · intro j o ho i hi
            simp only [lk] at ho
            cases hb : Nat.beq j p with
            | true => rw [hb] at ho; injection ho with ho; subst ho; cases hi
            | false =>
              rw [hb] at ho
              obtain ⟨o', ho'⟩ := q3 j o ho i hi
              simp only [lk]
              cases hb : Nat.beq i p with
              | true => exact ⟨_, rfl⟩
              | false => exact ⟨o', ho'⟩
          · intro id o ho
            simp only [lk] at ho
            cases hb : Nat.beq id p with
            | true =>
              rw [hb] at ho; injection ho with ho; subst ho
              have := beq_iff.1 hb; subst this
              refine ⟨hob, ?_⟩
              rcases hsrc with h | h
              · exact .inl h
              · exact .inr (.inl h)
            | false =>
              rw [hb] at ho
              obtain ⟨r1, r2⟩ := q4 id o ho
              refine ⟨r1, ?_⟩
              rcases r2 with r2 | ⟨i, r2, r3⟩ | ⟨q, t, cs, r3, r4, r5⟩
              · exact .inl r2
              · exact .inr (.inl ⟨i, hsub _ r2, r3⟩)
              · exact .inr (.inr ⟨q + 1, t, cs, up r3, by omega, by rw [r5]; congr 2; omega⟩)
          · intro q t cs hq
            cases q with
            | zero => simp at hq
            | succ q =>
              have := q6 q t cs (by simpa using hq)
              rw [show p + (q + 1) = p + 1 + q by omega]; exact this
        cases s with
        | nil =>
          simp only at h
          cases hei : lk e E.tt with
          | none => rw [hei] at h; cases h
          | some ei =>
            rw [hei] at h
            replace h := cond_some.1 h
            obtain ⟨hle, h⟩ := h
            simp only [Bool.and_eq_true] at hle
            replace h := opt_some.1 h
            obtain ⟨r, hr, h⟩ := h
            injection h with h; injection h with h1 h; injection h with h2 h3; subst h1 h2 h3
            have hp := Nat.le_of_ble_eq_true hle.2
            have hv : a.eval x0 = .slice none 0 0 := hsv
            have hιp : ιc w vs p = .slice none 0 0 := (ιc_param hv0 hp).trans hv
            exact fin [] r hr rfl rfl (fun _ h => h) hp ⟨_, _, _, hv⟩ ⟨ei, hei, Nat.le_of_ble_eq_true hle.1, .inl ⟨hιp, rfl⟩⟩ (.inl hιp)
        | own i =>
          simp only at h
          cases hob : st.objs i with
          | none => rw [hob] at h; cases h
          | some o =>
            rw [hob] at h
            cases o with
            | map _ _ => cases h
            | box _ _ => cases h
            | arr e' es =>
              replace h := cond_some.1 h
              obtain ⟨he, h⟩ := h
              simp only [Bool.and_eq_true] at he
              have hp := Nat.le_of_ble_eq_true he.2
              have he := beq_iff.1 he.1
              subst he
              replace h := opt_some.1 h
              obtain ⟨r, hr, h⟩ := h
              injection h with h; injection h with h1 h; injection h with h2 h3; subst h1 h2 h3
              obtain ⟨hv, y1, y2, y3, hy⟩ : a.eval x0 = ι i ∧ ∃ a n c, ι i = .slice a n c := hsv
              have hιp : ιc w vs p = ι i := (ιc_param hv0 hp).trans hv
              obtain ⟨ei, g1, g2, g3⟩ := H.obj i _ hob
              exact fin es r hr rfl rfl (fun _ h => List.mem_cons_of_mem _ h) hp ⟨_, _, _, hv.trans hy⟩ ⟨ei, g1, g2, by rw [hιp]; exact g3⟩ (.inr ⟨i, List.mem_cons_self, ⟨_, hob⟩, hιp⟩)
        | _ => cases h
      | box t cs =>
        simp only [hargsO] at h
        replace h := opt_some.1 h
        obtain ⟨s, hs, h⟩ := h
        have hsv := hev x0 s hs
        cases s with
        | bptr i u off k =>
          simp only at h
          replace h := cond_some.1 h
          obtain ⟨hc, h⟩ := h
          simp only [Bool.and_eq_true] at hc
          obtain ⟨hc1, hc2, hc3, hc4, hc5⟩ := hc
          have hc5 := KT.eq_iff.1 hc5
          have hc1 := beq_iff.1 hc1
          have hc2 := beq_iff.1 hc2
          have hc3 := Nat.le_of_ble_eq_true hc3
          have hp := Nat.le_of_ble_eq_true hc4
          subst hc1 hc2
          cases hob : st.objs i with
          | none => rw [hob] at h; cases h
          | some o =>
            rw [hob] at h
            cases o with
            | map _ _ => cases h
            | arr _ _ => cases h
            | box u' c =>
              replace h := cond_some.1 h
              obtain ⟨he, h⟩ := h
              have he := beq_iff.1 he
              subst he
              replace h := opt_some.1 h
              obtain ⟨ti, hti, h⟩ := h
              replace h := opt_some.1 h
              obtain ⟨y, hy, h⟩ := h
              replace h := opt_some.1 h
              obtain ⟨r, hr, h⟩ := h
              injection h with h; injection h with h1 h; injection h with h2 h3; subst h1 h2 h3
              obtain ⟨hl, sl, os, bid, q1, q2, q3, q4, q5, q6⟩ := ih (p + 1) xs r.1 r.2.1 r.2.2 hr hvs'
              obtain ⟨hka, b, hι, hv⟩ := hsv
              obtain ⟨ti', b', cc, hti', hι', hheap, hbc⟩ := H.obj i _ hob
              rw [hti] at hti'; cases hti'
              rw [hι] at hι'; injection hι' with hι'; injection hι' with hι'; injection hι' with hb; subst hb
              obtain ⟨b1, b2, b3⟩ := toCells_rel hT hti hbc
              have hιp : ιc w vs p = .pointer (some ⟨b, 0, none⟩) := (ιc_param hv0 hp).trans hv
              have hcell : ∀ j, w.cell? ⟨b, j, none⟩ = cc[j]? := fun j => by simp [World.cell?, hheap]
              have hv0' : vs[p]? = some (.pointer (some ⟨b, 0, none⟩)) := by rw [hv0, hv]
              have hcsl : cs.length ≤ 64 := hc3
              have hlen0 : cs.length = (c.toCells ti).length := by
                have key : ∀ (cs : List CK) (c0 : Nat) (ss : List SV) z, cellArgs E st i p c0 cs ss = some z → cs.length = ss.length := by
                  intro cs
                  induction cs with
                  | nil => intro c0 ss z h; cases ss with
                    | nil => rfl
                    | cons _ _ => cases h
                  | cons k cs ihc =>
                    intro c0 ss z h
                    cases ss with
                    | nil => cases k <;> cases h
                    | cons s ss =>
                      cases k with
                      | val q =>
                        obtain ⟨_, _, h⟩ := opt_some.1 h
                        obtain ⟨x, hx, _⟩ := opt_some.1 h
                        simp [ihc _ _ _ hx]
                      | lent => cases h
                      | row e =>
                        simp only [cellArgs] at h
                        split at h
                        · split at h
                          · replace h := (cond_some.1 h).2
                            obtain ⟨x, hx, _⟩ := opt_some.1 h
                            simp [ihc _ _ _ hx]
                          · cases h
                        · split at h
                          · replace h := (cond_some.1 h).2
                            obtain ⟨x, hx, _⟩ := opt_some.1 h
                            simp [ihc _ _ _ hx]
                          · cases h
                        · cases h
                      | self =>
                        simp only [cellArgs] at h
                        split at h
                        · replace h := (cond_some.1 h).2
                          obtain ⟨x, hx, _⟩ := opt_some.1 h
                          simp [ihc _ _ _ hx]
                        · cases h
                exact key cs 0 _ _ hy
              obtain ⟨d1, d2, d3⟩ := cellArgs_ok (ιn := ιc w vs) H (hιp.trans hι.symm) cs 0 _ y.1 y.2 cc.toList hy (by rw [Array.length_toList, b1, b2]) (fun j s u hs hu => b3 j s u hs (by simpa using hu)) (fun j u hu => by
                rw [Nat.zero_add]
                have hju : cc[j]? = some u := by simpa using hu
                have hjl : j < cc.size := (Array.getElem?_eq_some_iff.1 hju).1
                exact ιc_row hv0' (by omega) (by rw [hcell]; exact hju))
              have hcd : ∀ j d0, y.1[j]? = some d0 → (D.agg y.1).cell j = d0 := fun j d0 h => by
                show y.1.getD j .no = d0
                rw [List.getD_eq_getElem?_getD, h]; rfl
              -- the cells of the box, cell by cell
              have hcellok : ∀ (j : Nat) k, cs[j]? = some k → ∃ s u d0, (c.toCells ti)[j]? = some s ∧ cc[j]? = some u ∧ (D.agg y.1).cell j = d0 ∧ CellOK E st ι (ιc w vs) M w y.2 p j u d0 k := by
                intro j k hk
                have hjl := (List.getElem?_eq_some_iff.1 hk).1
                have h1 : (c.toCells ti)[j]? = some ((c.toCells ti)[j]'(by omega)) := List.getElem?_eq_getElem (by omega)
                have h2 : cc[j]? = some (cc[j]'(by omega)) := Array.getElem?_eq_getElem (by omega)
                have h3 : y.1[j]? = some (y.1[j]'(by omega)) := List.getElem?_eq_getElem (by omega)
                have := d3 j k _ _ _ hk h1 (by rw [Array.getElem?_toList]; exact h2) h3
                rw [Nat.zero_add] at this
                exact ⟨_, _, _, h1, h2, hcd j _ h3, this⟩
              let d : D := .agg y.1
              let bid' : Nat → Nat := fun q => if q = p then i else bid q
              have hbid : ∀ q, p + 1 ≤ q → bid q = bid' q := fun q hq => by simp only [bid']; rw [if_neg (by omega)]
              have hbidp : bid' p = i := by simp [bid']
              have hpar : paramSt (.box u' cs :: ps) p (.agg y.1 :: r.1) = some ((p, .bptr p u' 0 (.agg u')) :: sl, (p, .box u' (.cells (mkCells p cs 0 d))) :: (rowObjs p cs 0 d ++ os)) := by
                simp only [paramSt, q1, opt, boxOb, cellArgs_lent hy, cond_false]; rfl
              have hlk : ∀ j o, lk j ((p, Obj.box u' (.cells (mkCells p cs 0 d))) :: (rowObjs p cs 0 d ++ os)) = some o → (j = p ∧ o = .box u' (.cells (mkCells p cs 0 d))) ∨ (∃ c0 e, cs[c0]? = some (.row e) ∧ j = rowId p c0 ∧ o = .arr e (d.cell c0).toList) ∨ lk j os = some o := by
                intro j o h
                simp only [lk] at h
                cases hb : Nat.beq j p with
                | true => rw [hb] at h; injection h with h; exact .inl ⟨beq_iff.1 hb, h.symm⟩
                | false =>
                  rw [hb] at h
                  simp only [cond_false, lk_app] at h
                  cases hr2 : lk j (rowObjs p cs 0 d) with
                  | some o' =>
                    rw [hr2] at h; injection h with h; subst h
                    obtain ⟨c0, e, g1, g2, g3⟩ := rowObjs_lk p cs 0 d j o' hr2
                    rw [Nat.zero_add] at g2 g3
                    exact .inr (.inl ⟨c0, e, g1, g2, g3⟩)
                  | none => rw [hr2] at h; exact .inr (.inr h)
              have hin : ∀ j o, lk j os = some o → ∃ o', lk j ((p, Obj.box u' (.cells (mkCells p cs 0 d))) :: (rowObjs p cs 0 d ++ os)) = some o' := by
                intro j o h
                simp only [lk]
                cases hb : Nat.beq j p with
                | true => exact ⟨_, rfl⟩
                | false =>
                  simp only [cond_false, lk_app]
                  cases lk j (rowObjs p cs 0 d) with
                  | some o' => exact ⟨_, rfl⟩
                  | none => exact ⟨o, h⟩
              have hself : ∃ o', lk p ((p, Obj.box u' (.cells (mkCells p cs 0 d))) :: (rowObjs p cs 0 d ++ os)) = some o' := ⟨.box u' (.cells (mkCells p cs 0 d)), by simp only [lk, beq_self, cond_true]⟩
              have hrowin : ∀ c0 e, cs[c0]? = some (.row e) → ∃ o', lk (rowId p c0) ((p, Obj.box u' (.cells (mkCells p cs 0 d))) :: (rowObjs p cs 0 d ++ os)) = some o' := by
                intro c0 e hce
                obtain ⟨o', ho'⟩ := rowObjs_there p cs 0 d c0 e hce
                rw [Nat.zero_add] at ho'
                simp only [lk]
                cases hb : Nat.beq (rowId p c0) p with
                | true => exact ⟨_, rfl⟩
                | false => exact ⟨o', by simp only [cond_false, lk_app, ho']⟩
              refine ⟨by simp [hl], _, _, bid', hpar, ?_, ?_, ?_, ?_, ?_⟩
              · intro t s1 ht
                simp only [lk] at ht
                cases hb : Nat.beq t p with
                | true =>
                  rw [hb] at ht; injection ht with ht; subst ht
                  have := beq_iff.1 hb; subst this
                  refine ⟨⟨_, hv0', ?_⟩, fun i hi => ?_⟩
                  · refine ⟨?_, b, hιp, rfl⟩
                    rw [← hc5]; exact hka
                  · simp [refsOf, refs0] at hi; subst hi; exact hself
                | false =>
                  rw [hb] at ht
                  obtain ⟨r1, r2⟩ := q2 t s1 ht
                  exact ⟨r1, fun i hi => by obtain ⟨o, ho⟩ := r2 i hi; exact hin i o ho⟩
              · intro j o ho k hk
                rcases hlk j o ho with ⟨rfl, rfl⟩ | ⟨c0, e, _, _, rfl⟩ | ho
                · rcases mkCells_refs hk with rfl | ⟨c0, e, g1, rfl⟩
                  · exact hself
                  · rw [Nat.zero_add]; exact hrowin c0 e g1
                · cases hk
                · obtain ⟨o', ho'⟩ := q3 j o ho k hk
                  exact hin k o' ho'
              · intro id o ho
                rcases hlk id o ho with ⟨rfl, rfl⟩ | ⟨c0, e, g1, rfl, rfl⟩ | ho
                · refine ⟨⟨ti, b, cc, hti, hιp, hheap, b1, by rw [mkCells_length, hlen0, b2], fun j s1 u hs1 hu => ?_⟩, .inr (.inr ⟨0, u', cs, rfl, rfl, by rw [Nat.add_zero, hbidp, hιp, hι]⟩)⟩
                  rw [mkCells_get, Option.map_eq_some_iff] at hs1
                  obtain ⟨k', hk', rfl⟩ := hs1
                  obtain ⟨s2, u2, d0, e1, e2, e3, e4⟩ := hcellok j k' hk'
                  rw [hu] at e2; injection e2 with e2; subst e2
                  rw [Nat.zero_add]
                  cases k' with
                  | val q =>
                    have e4 : Rep E.tt M q u d0 := e4
                    show Rep E.tt M q u (canon q (d.cell j))
                    rw [show d.cell j = d0 from e3, e4.canon]; exact e4
                  | row e' =>
                    obtain ⟨_, _, hsl, e5⟩ := e4
                    exact ⟨e5.symm, by rw [e5]; exact hsl⟩
                  | self => exact e4
                  | lent => exact e4.elim
                · obtain ⟨s2, u2, d0, e1, e2, e3, e4⟩ := hcellok c0 _ g1
                  obtain ⟨f1, f2, _⟩ := e4
                  rw [show d.cell c0 = d0 from e3]
                  refine ⟨f1, ?_⟩
                  rcases f2 with f2 | ⟨j, f2, f3⟩
                  · exact .inl f2
                  · exact .inr (.inl ⟨j, List.mem_append_left _ f2, f3⟩)
                · obtain ⟨r1, r2⟩ := q4 id o ho
                  refine ⟨r1, ?_⟩
                  rcases r2 with r2 | ⟨j, r2, r3⟩ | ⟨q, t, cs2, r3, r4, r5⟩
                  · exact .inl r2
                  · exact .inr (.inl ⟨j, List.mem_append_right _ r2, r3⟩)
                  · exact .inr (.inr ⟨q + 1, t, cs2, up r3, by omega, by rw [r5, hbid _ (by omega)]; congr 2; omega⟩)
              · simp only [boxesP, hbidp]
                rw [q5, boxesP_congr ps (p + 1) hbid]
              · intro q t cs2 hq
                cases q with
                | zero =>
                  rw [Nat.add_zero, hbidp]
                  exact ⟨⟨_, hob⟩, by rw [hv0', hι]⟩
                | succ q =>
                  have := q6 q t cs2 (by simpa using hq)
                  rw [show p + (q + 1) = p + 1 + q by omega, ← hbid _ (by omega)]; exact this
        | own i =>
          simp only at h
          cases hob : st.objs i with
          | none => rw [hob] at h; cases h
          | some o =>
            rw [hob] at h
            cases o with
            | map _ _ => cases h
            | box _ _ => cases h
            | arr e' es =>
              replace h := cond_some.1 h
              obtain ⟨he, h⟩ := h
              simp only [Bool.and_eq_true] at he
              obtain ⟨hz, he, hp⟩ := he
              have hp := Nat.le_of_ble_eq_true hp
              have he : e' = t := beq_iff.1 he
              have hcs := isLent_eq hz
              subst hcs he
              replace h := opt_some.1 h
              obtain ⟨r, hr, h⟩ := h
              injection h with h; injection h with h1 h; injection h with h2 h3; subst h1 h2 h3
              obtain ⟨hl, sl, os, bid, q1, q2, q3, q4, q5, q6⟩ := ih (p + 1) xs r.1 r.2.1 r.2.2 hr hvs'
              obtain ⟨hv, y1, y2, y3, hy⟩ : a.eval x0 = ι i ∧ ∃ a n c, ι i = .slice a n c := hsv
              have hιp : ιc w vs p = ι i := (ιc_param hv0 hp).trans hv
              obtain ⟨ei, g1, g2, g3⟩ := H.obj i _ hob
              let bid' : Nat → Nat := fun q => if q = p then i else bid q
              have hbid : ∀ q, p + 1 ≤ q → bid q = bid' q := fun q hq => by simp only [bid']; rw [if_neg (by omega)]
              have hbidp : bid' p = i := by simp [bid']
              have hpar : paramSt (.box e' [.lent] :: ps) p (.list es :: r.1) = some ((p, .own p) :: sl, (p, .arr e' es) :: os) := by
                simp only [paramSt, q1, opt]; rfl
              have hin : ∀ j o, lk j os = some o → ∃ o', lk j ((p, Obj.arr e' es) :: os) = some o' := by
                intro j o ho
                simp only [lk]
                cases hb : Nat.beq j p with
                | true => exact ⟨_, rfl⟩
                | false => exact ⟨o, ho⟩
              refine ⟨by simp [hl], _, _, bid', hpar, ?_, ?_, ?_, ?_, ?_⟩
              · intro t s1 ht
                simp only [lk] at ht
                cases hb : Nat.beq t p with
                | true =>
                  rw [hb] at ht; injection ht with ht; subst ht
                  have := beq_iff.1 hb; subst this
                  refine ⟨⟨_, hv0, by rw [hιp]; exact hv, by rw [hιp]; exact ⟨_, _, _, hy⟩⟩, fun i hi => ?_⟩
                  simp [refsOf, refs0] at hi; subst hi
                  exact ⟨.arr e' es, by simp only [lk, beq_self, cond_true]⟩
                | false =>
                  rw [hb] at ht
                  obtain ⟨r1, r2⟩ := q2 t s1 ht
                  exact ⟨r1, fun i hi => by obtain ⟨o, ho⟩ := r2 i hi; exact hin i o ho⟩
              · intro j o ho k hk
                simp only [lk] at ho
                cases hb : Nat.beq j p with
                | true => rw [hb] at ho; injection ho with ho; subst ho; cases hk
                | false =>
                  rw [hb] at ho
                  obtain ⟨o', ho'⟩ := q3 j o ho k hk
                  exact hin k o' ho'
              · intro id o ho
                simp only [lk] at ho
                cases hb : Nat.beq id p with
                | true =>
                  rw [hb] at ho; injection ho with ho; subst ho
                  have := beq_iff.1 hb; subst this
                  exact ⟨⟨ei, g1, g2, by rw [hιp]; exact g3⟩, .inr (.inr ⟨0, e', [.lent], rfl, rfl, by rw [Nat.add_zero, hbidp, hιp]⟩)⟩
                | false =>
                  rw [hb] at ho
                  obtain ⟨r1, r2⟩ := q4 id o ho
                  refine ⟨r1, ?_⟩
                  rcases r2 with r2 | r2 | ⟨q, t, cs2, r3, r4, r5⟩
                  · exact .inl r2
                  · exact .inr (.inl r2)
                  · exact .inr (.inr ⟨q + 1, t, cs2, up r3, by omega, by rw [r5, hbid _ (by omega)]; congr 2; omega⟩)
              · simp only [boxesP, hbidp]
                rw [q5, boxesP_congr ps (p + 1) hbid]
              · intro q t cs2 hq
                cases q with
                | zero =>
                  rw [Nat.add_zero, hbidp]
                  exact ⟨⟨_, hob⟩, by rw [hv0, hv]⟩
                | succ q =>
                  have := q6 q t cs2 (by simpa using hq)
                  rw [show p + (q + 1) = p + 1 + q by omega, ← hbid _ (by omega)]; exact this
        | _ => cases h
end
end Go.Proofs.YtcmeincdmphaoaaDoor.DS

namespace Go.Proofs.YtcmeincdmphaoaaDoor.DS

theorem boxObjs_there : ∀ (boxes : List (Nat × TypeId × List CK)) (n : Nat) (ds : List D) (i : Nat), i ∈ boxIds boxes → ∃ o, lk i (boxObjs boxes n ds) = some o := by
  intro boxes
  induction boxes with
  | nil => intro n ds i h; cases h
  | cons x r ih =>
    obtain ⟨j, t, cs⟩ := x
    intro n ds i h
    simp only [boxObjs, lk]
    cases hb : Nat.beq i j with
    | true => exact ⟨_, rfl⟩
    | false =>
      simp only [cond_false, lk_app]
      rcases List.mem_cons.1 h with h | h
      · exact absurd h (beq_false.1 hb)
      · cases lk i (rowObjs j cs 0 (ds.getD n .no)) with
        | some o => exact ⟨o, rfl⟩
        | none => exact ih (n + 1) ds i h
theorem boxObjs_refs : ∀ (boxes : List (Nat × TypeId × List CK)) (n : Nat) (ds : List D) (j : Nat) (o : Obj), lk j (boxObjs boxes n ds) = some o → ∀ i, i ∈ objRefs0 o → ∃ o', lk i (boxObjs boxes n ds) = some o' := by
  intro boxes
  induction boxes with
  | nil => intro n ds j o h; cases h
  | cons x r ih =>
    obtain ⟨k, t, cs⟩ := x
    intro n ds j o h i hi
    have up : ∀ i o', lk i (boxObjs r (n + 1) ds) = some o' → ∃ o', lk i (boxObjs ((k, t, cs) :: r) n ds) = some o' := by
      intro i o' h
      simp only [boxObjs, lk]
      cases hb : Nat.beq i k with
      | true => exact ⟨_, rfl⟩
      | false =>
        simp only [cond_false, lk_app]
        cases lk i (rowObjs k cs 0 (ds.getD n .no)) with
        | some o => exact ⟨o, rfl⟩
        | none => exact ⟨o', h⟩
    simp only [boxObjs, lk] at h
    cases hb : Nat.beq j k with
    | true =>
      rw [hb] at h; injection h with h; subst h
      unfold boxOb at hi
      cases hz : isLent cs with
      | true => rw [hz] at hi; cases hi
      | false =>
      rw [hz] at hi
      rcases mkCells_refs hi with rfl | ⟨c, e, g1, rfl⟩
      · exact ⟨boxOb t cs i (ds.getD n .no), by simp only [boxObjs, lk, beq_self, cond_true]⟩
      · obtain ⟨o', ho'⟩ := rowObjs_there k cs 0 (ds.getD n .no) c e g1
        simp only [boxObjs, lk]
        cases hb2 : Nat.beq (rowId k (0 + c)) k with
        | true => exact ⟨_, rfl⟩
        | false => exact ⟨o', by simp only [cond_false, lk_app, ho']⟩
    | false =>
      rw [hb] at h
      simp only [cond_false, lk_app] at h
      cases hr : lk j (rowObjs k cs 0 (ds.getD n .no)) with
      | some o' =>
        rw [hr] at h; injection h with h; subst h
        obtain ⟨_, _, _, _, rfl⟩ := rowObjs_lk k cs 0 _ j o' hr
        cases hi
      | none =>
        rw [hr] at h
        obtain ⟨o', ho'⟩ := ih (n + 1) ds j o h i hi
        exact up i o' ho'
theorem freshOr_spec {st : St} {l : List Nat} : ∀ {os : List (Nat × Obj)}, freshOr st l os = true → ∀ i o, lk i os = some o → i ∈ l ∨ st.objs i = none := by
  intro os
  induction os with
  | nil => intro _ i o h; cases h
  | cons x r ih =>
    obtain ⟨k, o'⟩ := x
    intro h i o hi
    simp only [freshOr] at h
    obtain ⟨h1, h2⟩ : (memN k l || fresh st k) = true ∧ freshOr st l r = true := by
      cases hq : (memN k l || fresh st k) with
      | true => rw [hq] at h; exact ⟨rfl, h⟩
      | false => rw [hq] at h; cases h
    simp only [lk] at hi
    cases hb : Nat.beq i k with
    | true =>
      have := beq_iff.1 hb; subst this
      simp only [Bool.or_eq_true] at h1
      rcases h1 with h1 | h1
      · exact .inl (memN_iff.1 h1)
      · right
        unfold fresh at h1
        split at h1
        · cases h1
        · assumption
    | false => rw [hb] at hi; exact ih h2 i o hi
theorem boxIds_bid {bid : Nat → Nat} : ∀ (ps : List PM) (p : Nat) (i : Nat), i ∈ boxIds (boxesP bid p ps) → ∃ q t cs, ps[q]? = some (.box t cs) ∧ i = bid (p + q) := by
  intro ps
  induction ps with
  | nil => intro p i h; cases h
  | cons x r ih =>
    intro p i h
    have tail : i ∈ boxIds (boxesP bid (p + 1) r) → ∃ q t cs, (x :: r)[q]? = some (.box t cs) ∧ i = bid (p + q) := by
      intro h
      obtain ⟨q, t, cs, h1, h2⟩ := ih (p + 1) i h
      exact ⟨q + 1, t, cs, by simpa using h1, by rw [h2]; congr 1; omega⟩
    cases x with
    | box t cs =>
      rcases List.mem_cons.1 h with h | h
      · exact ⟨0, t, cs, rfl, h⟩
      · exact tail h
    | _ => exact tail h

section
variable {P : Program} {E : Env} (hT : TTok P E.tt) {st : St} {ops : List Oper} {a : Act} {w w0 : World} {X : Nat → Prop} {Mx : Mem} {ι : Nat → Value} {M : Mem}

/-- The blocks that are handed over. -/
def Xh (st : St) (ι : Nat → Value) (l : List Nat) (b : Nat) : Prop := ∃ i, i ∈ l ∧ ∃ o, st.objs i = some o ∧ blockOf (ι i) = some b

include hT in
theorem hargs_ok {L : List (Nat × Bool)} (hev : ∀ x s, ev st ops L x = some s → SVRel E.tt ι M s (a.eval x)) (H : HRel E.tt X w0 Mx ι M st.objs w) {ps : List PM} {xs : List Operand} {ds : List D} {rs : List (Nat × Nat)} {boxes : List (Nat × TypeId × List CK)}
    (h : hargsO E st ops L 0 ps xs = some (ds, rs, boxes)) (hnd : (sndL rs ++ boxIds boxes).Nodup) :
    ∃ bid : Nat → Nat, boxes = boxesP bid 0 ps ∧ (∀ p t cs, ps[p]? = some (.box t cs) → (xs.map a.eval)[p]? = some (ι (bid p)) ∧ ∃ o, st.objs (bid p) = some o) ∧ ArgsOK E (Xh st ι (sndL rs ++ boxIds boxes)) w M ps (xs.map a.eval) ds := by
  obtain ⟨hl, sl, os, bid, q1, q2, q3, q4, q5, q6⟩ := hargs_ind (vs := xs.map a.eval) hT hev H ps 0 xs ds rs boxes h (fun q x hx => by rw [Nat.zero_add, List.getElem?_map, hx]; rfl)
  have q6' : ∀ p t cs, ps[p]? = some (.box t cs) → (xs.map a.eval)[p]? = some (ι (bid p)) ∧ ∃ o, st.objs (bid p) = some o := fun p t cs hp => by
    have := q6 p t cs hp
    rw [Nat.zero_add] at this
    exact ⟨this.2, this.1⟩
  obtain ⟨n1, n2, n3⟩ := List.nodup_append.1 hnd
  refine ⟨bid, q5, q6', by simp [hl], sl, os, ιc w (xs.map a.eval), q1, ?_, q2, q3⟩
  -- where a handle comes from
  have src : ∀ id o b, lk id os = some o → blockOf (ιc w (xs.map a.eval) id) = some b → ∃ j, ((id, j) ∈ rs ∨ ∃ q t cs, ps[q]? = some (.box t cs) ∧ id = q ∧ j = bid q) ∧ (∃ o, st.objs j = some o) ∧ blockOf (ι j) = some b := by
    intro id o b ho hb
    rcases (q4 id o ho).2 with r | ⟨i, r1, r2, r3⟩ | ⟨q, t, cs, r1, r2, r3⟩
    · rw [r] at hb; cases hb
    · exact ⟨i, .inl r1, r2, by rw [← r3]; exact hb⟩
    · rw [Nat.zero_add] at r2 r3
      exact ⟨bid q, .inr ⟨q, t, cs, r1, r2, rfl⟩, (q6' q t cs r1).2, by rw [← r3]; exact hb⟩
  have inl : ∀ id j, ((id, j) ∈ rs ∨ ∃ q t cs, ps[q]? = some (.box t cs) ∧ id = q ∧ j = bid q) → j ∈ sndL rs ++ boxIds boxes := by
    intro id j hj
    rcases hj with hj | ⟨q, t, cs, r1, _, rfl⟩
    · exact List.mem_append_left _ (sndL_mem hj)
    · refine List.mem_append_right _ ?_
      have := boxIds_mem (bid := bid) ps 0 q t cs r1
      rw [Nat.zero_add] at this
      rw [q5]; exact this
  refine ⟨fun id o ho => (q4 id o ho).1, ?_, ?_, H.mem, fun _ _ h => h, fun _ _ _ => rfl, rfl, rfl, rfl, Nat.le_refl _, fun _ _ _ => rfl⟩
  · intro id id' o o' b h1 h2 hne hb hb'
    obtain ⟨j, s1, ⟨oj, s2⟩, s3⟩ := src id o b h1 hb
    obtain ⟨j', s1', ⟨oj', s2'⟩, s3'⟩ := src id' o' b h2 hb'
    have hjj : j ≠ j' := by
      intro e
      subst e
      rcases s1 with s1 | ⟨q, t, cs, r1, r2, r3⟩ <;> rcases s1' with s1' | ⟨q', t', cs', r1', r2', r3'⟩
      · exact hne (sndL_inj n1 s1 s1')
      · have hm := boxIds_mem (bid := bid) ps 0 q' t' cs' r1'
        rw [Nat.zero_add, ← q5, ← r3'] at hm
        exact n3 j (sndL_mem s1) j hm rfl
      · have hm := boxIds_mem (bid := bid) ps 0 q t cs r1
        rw [Nat.zero_add, ← q5, ← r3] at hm
        exact n3 j (sndL_mem s1') j hm rfl
      · have := boxIds_inj (bid := bid) ps 0 q q' t t' cs cs' (by rw [← q5]; exact n2) r1 r1' (by rw [Nat.zero_add, Nat.zero_add, ← r3, ← r3'])
        subst this
        exact hne (r2.trans r2'.symm)
    exact H.disj j j' oj oj' b s2 s2' hjj s3 s3'
  · intro id o b h1 hb
    obtain ⟨j, s1, ⟨oj, s2⟩, s3⟩ := src id o b h1 hb
    exact ⟨.inr ⟨j, inl id j s1, oj, s2, s3⟩, (H.own j oj b s2 s3).2⟩

/-- The caller's state behind the call. -/
theorem hret_left (H : HRel E.tt X w0 Mx ι M st.objs w) (hwf : WF st) {ps : List PM} {rms : List RM} {vs : List Value} {rows : List Nat} {boxes : List (Nat × TypeId × List CK)} {bid : Nat → Nat} (hbx : boxes = boxesP bid 0 ps)
    (hvs : ∀ p t cs, ps[p]? = some (.box t cs) → vs[p]? = some (ι (bid p))) {r : List D} {v : Value} {w' : World} (hret : RetOK E (Xh st ι (rows ++ boxIds boxes)) w M ps rms vs r v w') {base : Nat} {svs : List SV} {os1 : List (Nat × Obj)}
    (hres : resSV rms base 0 r = some (svs, os1)) (hnd : nodupL (keysN (os1 ++ boxObjs boxes rms.length r)) = true) (hfr : freshOr (dropRows rows st) (boxIds boxes) (os1 ++ boxObjs boxes rms.length r) = true) :
    ∃ ι' M', HRel E.tt X w0 Mx ι' M' (putAll (dropRows rows st).objs (os1 ++ boxObjs boxes rms.length r)) w' ∧
      (∀ t s1, (dropRows rows st).slots t = some s1 → ∃ s0, st.slots t = some s0 ∧ ∀ v0, SVRel E.tt ι M s0 v0 → SVRel E.tt ι' M' s1 v0) ∧ SVRel E.tt ι' M' (oneV svs) v ∧
      WF { dropRows rows st with objs := putAll (dropRows rows st).objs (os1 ++ boxObjs boxes rms.length r) } ∧ ∀ i, i ∈ refsOf (oneV svs) → ∃ o, putAll (dropRows rows st).objs (os1 ++ boxObjs boxes rms.length r) i = some o := by
  subst hbx
  obtain ⟨ι2, M', R, hv, hvr, hbp⟩ := hret base bid svs os1 hres hnd
  have D := drop_all rows H hwf
  generalize hos : os1 ++ boxObjs (boxesP bid 0 ps) rms.length r = os at *
  have hlkr : ∀ i o, lk i os1 = some o → ∃ o', lk i os = some o' := fun i o h => ⟨o, by rw [← hos, lk_app, h]⟩
  have hlkb : ∀ i o, lk i (boxObjs (boxesP bid 0 ps) rms.length r) = some o → ∃ o', lk i os = some o' := fun i o h => by
    rw [← hos, lk_app]
    cases lk i os1 with
    | some o' => exact ⟨o', rfl⟩
    | none => exact ⟨o, h⟩
  have hosr : ∀ j o, lk j os = some o → ∀ i, i ∈ objRefs0 o → ∃ o', lk i os = some o' := by
    intro j o h i hi
    rw [← hos, lk_app] at h
    cases hl : lk j os1 with
    | some o' =>
      rw [hl] at h; injection h with h; subst h
      rw [(resSV_spec rms base 0 r svs os1 hres).1 j o' hl] at hi; cases hi
    | none =>
      rw [hl] at h
      obtain ⟨o', ho'⟩ := boxObjs_refs _ _ _ j o h i hi
      exact hlkb i o' ho'
  obtain ⟨hM, hold⟩ := HRel.merge2 (hs := boxIds (boxesP bid 0 ps)) D.rel R (fun b ⟨i, _, o, ho, hb⟩ => (H.own i o b ho hb).1) (fun b ⟨j, hj, oj, hoj, hbj⟩ i o ho hi hb => by
      obtain ⟨h1, o0, h2⟩ := D.there i o ho
      have hij : i ≠ j := by
        intro e; subst e
        rcases List.mem_append.1 hj with hj | hj
        · exact h1 hj
        · exact hi hj
      exact H.disj i j o0 oj b h2 hoj hij hb hbj)
    (fun i o h => freshOr_spec hfr i o h) (fun i hi => by obtain ⟨o, ho⟩ := boxObjs_there _ rms.length r i hi; exact hlkb i o ho)
    (fun i hi => by
      obtain ⟨q, t, cs, g1, g2⟩ := boxIds_bid ps 0 i hi
      rw [Nat.zero_add] at g2; subst g2
      have e1 := hvs q t cs g1
      have e2 := hbp q t cs g1
      rw [e1] at e2; injection e2 with e2; exact e2.symm)
    D.wf.cells hosr
  have hin : ∀ i, (∃ o, (dropRows rows st).objs i = some o) → ∃ o, putAll (dropRows rows st).objs os i = some o := by
    intro i ⟨o, ho⟩
    rw [putAll_eq]
    cases lk i os with
    | some o' => exact ⟨o', rfl⟩
    | none => exact ⟨o, ho⟩
  have hin2 : ∀ i, (∃ o, lk i os = some o) → ∃ o, putAll (dropRows rows st).objs os i = some o := by
    intro i ⟨o, ho⟩
    rw [putAll_eq, ho]; exact ⟨o, rfl⟩
  refine ⟨joinι os ι ι2, M', hM, ?_, ?_, ⟨?_, ?_⟩, ?_⟩
  · intro t s1 h
    obtain ⟨s0, h1, h2⟩ := D.slots t s1 h
    exact ⟨s0, h1, fun v0 h0 => (h2 v0 h0).congr (fun i hi => hold i (D.wf.slots t s1 h i hi)) R.memx⟩
  · refine hv.congr (fun i hi => ?_) (fun _ _ h => h)
    obtain ⟨o, ho⟩ := hvr i hi
    obtain ⟨o', ho'⟩ := hlkr i o ho
    unfold joinι; rw [ho']
  · intro t s h i hi
    exact hin i (D.wf.slots t s h i hi)
  · intro j o hj i hi
    simp only [putAll_eq] at hj
    cases hl : lk j os with
    | some o' =>
      rw [hl] at hj; injection hj with hj; subst hj
      exact hin2 i (hosr j o' hl i hi)
    | none =>
      rw [hl] at hj
      exact hin i (D.wf.cells j o hj i hi)
  · intro i hi
    obtain ⟨o, ho⟩ := hvr i hi
    exact hin2 i (hlkr i o ho)
end
end Go.Proofs.YtcmeincdmphaoaaDoor.DS

namespace Go.Proofs.YtcmeincdmphaoaaDoor.DS

/-- Memory, a block's cells being data now. -/
def addBlock (M : Mem) (b : Nat) (cur : Array Value) : Mem := fun ad => match M ad with
  | some v => some v
  | none => if ad.block = b ∧ ad.spot = none then cur[ad.off]? else none

theorem addBlock_sub {M : Mem} {b : Nat} {cur : Array Value} {ad : Addr} {v : Value} (h : M ad = some v) : addBlock M b cur ad = some v := by
  simp only [addBlock, h]
theorem addBlock_other {M : Mem} {b : Nat} {cur : Array Value} {ad : Addr} (h : ad.block ≠ b) : addBlock M b cur ad = M ad := by
  simp only [addBlock]
  cases M ad with
  | some v => rfl
  | none => simp [h]

/-- A row that is data: its handle holds the data. -/
theorem frz_rep {tt : TT} {M : Mem} {w : World} {e : TypeId} {ei : TI} (he : lk e tt = some ei) {v : Value} {es : List D} (h : ArrRel tt M w e ei v es) (hfree : ∀ b, blockOf v = some b → ∀ off sp, M ⟨b, off, sp⟩ = none) :
    ∃ M', (∀ ad x, M ad = some x → M' ad = some x) ∧ (∀ ad, blockOf v ≠ some ad.block → M' ad = M ad) ∧ (∀ ad x, M' ad = some x → M ad = some x ∨ w.cell? ad = some x) ∧ Rep tt M' (.slice e) v (.list es) := by
  rcases h with ⟨rfl, rfl⟩ | ⟨b, cap, cur, t, fr, vs, rfl, hh, h3, h4, h5, _, h7⟩
  · exact ⟨M, fun _ _ h => h, fun _ _ => rfl, fun _ _ h => .inl h, .nil e none 0 (Nat.zero_le _)⟩
  · refine ⟨addBlock M b cur, fun _ _ h => addBlock_sub h, fun ad h => addBlock_other (fun e => h (by rw [← e]; rfl)), ?_, ?_⟩
    · intro ad x hx
      simp only [addBlock] at hx
      cases hm : M ad with
      | some v => rw [hm] at hx; exact .inl hx
      | none =>
        rw [hm] at hx
        simp only at hx
        split at hx
        · rename_i hc
          obtain ⟨h1, h2⟩ := hc
          right
          cases ad with
          | mk bb off sp =>
            simp only at h1 h2 hx
            subst h1 h2
            simpa [World.cell?, hh] using hx
        · cases hx
    · cases es with
      | nil => exact .nil e _ cap h4
      | cons x r =>
        refine .slice e ei ⟨b, 0, none⟩ cap (x :: r) (fun i => vs i) (by simp) h3 h4 he rfl (fun i hi => (h7 i hi).1) ?_ (fun i hi => ((h7 i hi).2.2).mono (fun _ _ h => addBlock_sub h))
        intro i j u hi hu
        have := (h7 i hi).2.1 j u hu
        simp only [addBlock, Nat.zero_add]
        rw [hfree b rfl]
        simp only [and_self, if_true]
        exact this


section
variable {P : Program} {E : Env} {X : Nat → Prop} {w0 w w' : World} {Mx : Mem} {pv : Nat → Option Value} {done : Nat → Prop} {st : St} {a : Act} {draw : Bool}

def fullM (w : World) : Mem := fun ad => w.cell? ad
theorem arr_full {tt : TT} {M : Mem} {e : TypeId} {ei : TI} (he : lk e tt = some ei) {v : Value} {es : List D} (h : ArrRel tt M w e ei v es) (hM : ∀ ad u, M ad = some u → w.cell? ad = some u) : Rep tt (fullM w) (.slice e) v (.list es) := by
  rcases h with ⟨rfl, rfl⟩ | ⟨b, cap, cur, t, fr, vs, rfl, hh, h1, h2, h3, h4, h5⟩
  · exact .nil _ _ _ (Nat.zero_le _)
  · cases es with
    | nil => exact .nil _ _ _ h2
    | cons x r =>
      refine .slice e ei ⟨b, 0, none⟩ cap (x :: r) vs (by simp) h1 h2 he rfl (fun i hi => (h5 i hi).1) (fun i j u hi hu => ?_) (fun i hi => ((h5 i hi).2.2).mono hM)
      have := (h5 i hi).2.1 j u hu
      simp only [fullM, World.cell?, hh, Nat.zero_add]
      exact this
theorem args_rel {ops : List Oper} {L : List (Nat × Bool)} {b : Bool} {ι : Nat → Value} {M M1 : Mem} (hev : ∀ x s, ev st ops L x = some s → SVRel E.tt ι M s (a.eval x)) (H : HRel E.tt X w0 Mx ι M st.objs w) (h1 : ∀ ad v, M ad = some v → M1 ad = some v) (h2 : b = true → M1 = fullM w) :
    ∀ (ps : List PM) (xs : List Operand) (ds : List D), argsO st ops L b ps xs = some ds → ArgsRep E.tt M1 ps (xs.map a.eval) ds := by
  intro ps
  induction ps with
  | nil =>
    intro xs ds h
    cases xs with
    | nil => injection h with h; subst h; trivial
    | cons x r => cases h
  | cons p ps ih =>
    intro xs ds h
    cases xs with
    | nil => cases p <;> cases h
    | cons x r =>
      cases p with
      | val k =>
        simp only [argsO] at h
        replace h := opt_some.1 h
        obtain ⟨s, hs, h⟩ := h
        replace h := opt_some.1 h
        obtain ⟨d, hd, h⟩ := h
        replace h := opt_some.1 h
        obtain ⟨q, hq, h⟩ := h
        injection h with h; subst h
        refine ⟨?_, ih r q hq⟩
        have hsv := hev x s hs
        cases s with
        | own i =>
          simp only [argD] at hd
          replace hd := cond_some.1 hd
          obtain ⟨hb, hd⟩ := hd
          rw [h2 hb]
          obtain ⟨hv, _⟩ : a.eval x = ι i ∧ _ := hsv
          cases k with
          | slice e =>
            cases hob : st.objs i with
            | none => rw [hob] at hd; cases hd
            | some o =>
              rw [hob] at hd
              cases o with
              | map _ _ => cases hd
              | box _ _ => cases hd
              | arr e' es =>
                replace hd := cond_some.1 hd
                obtain ⟨he, hd⟩ := hd
                have he := beq_iff.1 he
                subst he
                injection hd with hd; subst hd
                obtain ⟨ei, g1, _, g3⟩ := H.obj i _ hob
                show Rep E.tt (fullM w) (.slice e) (a.eval x) (.list es)
                rw [hv]
                exact arr_full g1 g3 H.mem
          | _ => cases hd
        | val k' d' => exact (svD_rel (s := .val k' d') hd hsv).mono h1
        | nil => exact (svD_rel (ι := ι) (M := M) (s := .nil) hd hsv).mono h1
        | sag t' ks l => exact (svD_rel (s := .sag t' ks l) hd hsv).mono h1
        | _ => simp [argD, svD, svD1] at hd
      | _ => cases h

theorem argsC_box {ops : List Oper} {L : List (Nat × Bool)} {id : Nat} : ∀ {ps : List PM} {xs : List Operand} {ds : List D}, argsC E st ops L id ps xs = some ds → noBoxP ps = true := by
  intro ps
  induction ps with
  | nil => intro xs ds _; rfl
  | cons p ps ih =>
    intro xs ds h
    cases p with
    | val k =>
      cases xs with
      | nil => cases ps <;> cases h
      | cons x xs =>
        simp only [argsC] at h
        obtain ⟨s, _, h⟩ := opt_some.1 h
        obtain ⟨d, _, h⟩ := opt_some.1 h
        obtain ⟨r, hr, h⟩ := opt_some.1 h
        exact ih hr
    | ref k =>
      cases ps with
      | nil => rfl
      | cons _ _ => cases xs <;> cases h
    | _ => cases xs <;> cases ps <;> cases h
theorem refD_rel {P : Program} {ι : Nat → Value} {M : Mem} (hT : TTok P E.tt) (H : HRel E.tt X w0 Mx ι M st.objs w) {id : Nat} {k : KT} {d : D} (h : refD E st id k = some d) : SVRel0 E.tt (fun _ => undef) (fullM w) (.eptr k d) (ι id) := by
  unfold refD at h
  split at h
  · rename_i u d' hob
    obtain ⟨ui, hui, h⟩ := opt_some.1 h
    obtain ⟨hk, h⟩ := cond_some.1 h
    have hk := KT.eq_iff.1 hk
    injection h with h; subst h
    obtain ⟨ti, b, cs, g1, g2, g3, _, g4⟩ := H.obj id _ hob
    rw [hui] at g1; injection g1 with g1; subst g1
    refine ⟨⟨b, 0, none⟩, .agg cs, u, ui, g2, rfl, hui, hk, ?_, fun j c hj => ?_⟩
    · rw [← hk]; exact g4.mono H.mem
    · simp only [fullM, World.cell?, g3, Nat.zero_add]
      exact hj
  · rename_i u s hob
    obtain ⟨ui, hui, h⟩ := opt_some.1 h
    obtain ⟨hk, h⟩ := cond_some.1 h
    simp only [Bool.and_eq_true] at hk
    have hk1 := KT.eq_iff.1 hk.1
    obtain ⟨ti, b, cs, g1, g2, g3, g4, g5, g6⟩ := H.obj id _ hob
    rw [hui] at g1; injection g1 with g1; subst g1
    have hlen : cs.size = 1 := by rw [g4, ← g5]; rfl
    have hrep : Rep E.tt M k (cs[0]'(by omega)) d := svD_rel h (.of0 (g6 0 s _ rfl (Array.getElem?_eq_getElem (by omega))))
    have hsing : k.single = true := by have := hk.2; cases k <;> first | rfl | cases this
    refine ⟨⟨b, 0, none⟩, cs[0]'(by omega), u, ui, g2, rfl, hui, hk1, hrep.mono H.mem, fun j c hj => ?_⟩
    rw [(hrep.cells_single hsing).1] at hj
    have hj0 : j = 0 := by
      have := (Array.getElem?_eq_some_iff.1 hj).1
      simp at this; exact this
    subst hj0
    simp at hj
    simp only [fullM, World.cell?, g3, Nat.zero_add]
    rw [← hj]; exact Array.getElem?_eq_getElem (by omega)
  · cases h
theorem argsC_rel {P : Program} {ops : List Oper} {L : List (Nat × Bool)} {ι : Nat → Value} {M : Mem} (hT : TTok P E.tt) (hev : ∀ x s, ev st ops L x = some s → SVRel E.tt ι M s (a.eval x)) (H : HRel E.tt X w0 Mx ι M st.objs w) {id : Nat} :
    ∀ (ps : List PM) (xs : List Operand) (ds : List D), argsC E st ops L id ps xs = some ds → ArgsRep E.tt (fullM w) ps (xs.map a.eval ++ [ι id]) ds := by
  intro ps
  induction ps with
  | nil => intro xs ds h; cases xs <;> cases h
  | cons p ps ih =>
    intro xs ds h
    cases p with
    | val k =>
      cases xs with
      | nil => cases ps <;> cases h
      | cons x xs =>
        simp only [argsC] at h
        obtain ⟨s, hs, h⟩ := opt_some.1 h
        obtain ⟨d, hd, h⟩ := opt_some.1 h
        obtain ⟨r, hr, h⟩ := opt_some.1 h
        injection h with h; subst h
        have h1 : argsO st ops L true [.val k] [x] = some [d] := by simp only [argsO, hs, hd, opt]
        exact ⟨(args_rel hev H (M1 := fullM w) H.mem (fun _ => rfl) [.val k] [x] [d] h1).1, ih xs r hr⟩
    | ref k =>
      cases ps with
      | nil =>
        cases xs with
        | nil =>
          simp only [argsC] at h
          obtain ⟨d, hd, h⟩ := opt_some.1 h
          injection h with h; subst h
          exact ⟨refD_rel hT H hd, trivial⟩
        | cons _ _ => cases h
      | cons _ _ => cases xs <;> cases h
    | _ => cases xs <;> cases ps <;> cases h

theorem undef_ne_bool (b : Bool) : (undef : Value) ≠ .bool b := by unfold undef; intro h; cases h

theorem op_sound0 {callk : Nat → List D → R} (hT : TTok P E.tt) {W0 : World} (hS : Same W0 w0) (hX : ∀ b, X b → W0.heap.size ≤ b) (hcall : CallOK P E W0 callk) {ops : Array Oper} (hn : nodupN (dstsOf ops.toList) = true) (hg : guardsOk ops.toList draw = true) {i : Nat} {o : Oper}
    (hi : nthOp ops.toList i = some o) (hnd : ¬ done i) (hdep : ∀ j w, o.guard = some (j, w) → done j) (hpd : ∀ t, o.dst = some t → pv t = none) (h : RI E X w0 Mx pv ops.toList done st a w) {p : Option Nat × Upd} {st' : St}
    (hp : evalU E callk ops.toList draw i st = some p) (hnh : isH E ops.toList draw i st = false) (hu : applyU st p.1 p.2 = some st') {Q : Exit → Act → World → Prop} {next : Act → World → Prop}
    (hnext : ∀ a' w', RI E X w0 Mx pv ops.toList (fun k => done k ∨ k = i) st' a' w' → next a' w') : wpOp P ops Q i next a w := by
  obtain ⟨⟨ι, M, H, hs⟩, hgi, hcl, hwf, hsz, hdf, hpin⟩ := h
  have hi' : ops[i]? = some o := by rw [← nthOp_toList]; exact hi
  have hconst : ∀ v s, constSV v = some s → SVRel E.tt ι M s v := fun v s h => .of0 (const_rel h)
  have hwant := wanted_iff (draw := draw) hg hgi hi hdep
  have hgB := guardB_iff (E := E) hn hg hs (i + 1) i o (by omega) hi
  have hev : ∀ L, HoldsL a L → ∀ x s, ev st ops.toList L x = some s → SVRel E.tt ι M s (a.eval x) := fun L hL x s h => ev_rel hn hs hL hconst h
  have hevp : ∀ L, HoldsL a L → ∀ tc b x s, a.eval (.tmp tc) = .bool b → evPick st ops.toList L tc b x = some s → SVRel E.tt ι M s (a.eval x) := fun L hL tc b x s hc h => evPick_rel hn hs hL hconst hc h
  have hself : ∀ t s1, st.slots t = some s1 → ∃ s0, st.slots t = some s0 ∧ ∀ v0, SVRel E.tt ι M s0 v0 → SVRel E.tt ι M s1 v0 := fun t s1 h => ⟨s1, h, fun _ h => h⟩
  -- an operation that is carried out, the world as it was
  have stepSv : ∀ {v : SV} {u : Value}, HoldsL a (chainOf ops.toList i) → (∀ i, i ∈ refsOf v → ∃ o, st.objs i = some o) → SVRel E.tt ι M v u → applyU st o.dst ⟨v, none, []⟩ = some st' → next (a.put o.dst u) w := by
    intro v u hL hr hv hput
    exact hnext _ _ (ri_step hn hg hi hnd hdep hs hgi hcl hsz hdf hpin hpd (s := st) ⟨ι, M, H, hself, fun _ => hv⟩ rfl hwf hr (fun _ _ => hL) hput)
  have stepNo : ∀ {v : SV}, ¬ HoldsL a (chainOf ops.toList i) → (∀ i, i ∈ refsOf v → ∃ o, st.objs i = some o) → applyU st o.dst ⟨v, none, []⟩ = some st' → next (a.put o.dst undef) w := by
    intro v hL hr hput
    exact hnext _ _ (ri_step hn hg hi hnd hdep hs hgi hcl hsz hdf hpin hpd (s := st) ⟨ι, M, H, hself, fun h => absurd h hL⟩ rfl hwf hr (fun b hb => absurd hb (undef_ne_bool b)) hput)
  have stepSt : ∀ {id : Nat} {ob : Obj} {scr : Bool} {v : SV}, HoldsL a (chainOf ops.toList i) → Does P E.tt X w0 Mx ι M a w o st (obSt st id ob scr) v → applyU st o.dst ⟨v, some (id, ob, scr), []⟩ = some st' → o.wp P a w next Q := by
    intro id ob scr v hL hd hput
    obtain ⟨u, w', hrun, ι', H', hsl, hv, hn', hwf', hr'⟩ := hd
    have := hnext _ _ (ri_step (u := u) hn hg hi hnd hdep hs hgi hcl hsz hdf hpin hpd (s := obSt st id ob scr) ⟨ι', M, H', hsl, fun _ => hv⟩ hn' hwf' hr' (fun _ _ => hL) hput)
    unfold Oper.wp
    rcases hrun with hrun | ⟨hrun, rfl⟩
    · rw [hrun]; exact this
    · rw [hrun]; exact this
  have stepNew : ∀ {L : List (Nat × Bool)} {id : Nat} {e : TypeId} {es : List D}, HoldsL a (chainOf ops.toList i) → HoldsL a L → opO E draw st ops.toList L o = some (.ob true id (.arr e es) false (.own id)) → st.objs id = none → applyU st o.dst ⟨.val (.slice e) (.list es), none, []⟩ = some st' → o.wp P a w next Q := by
    intro L id e es hL hL' ho hno hput
    obtain ⟨u, w', hrun, ι', H', hsl, hv, _, _, _⟩ := st_sound hT (hev L hL') H hwf ho rfl
    have hobs : ∀ i o', st.objs i = some o' → i ≠ id ∧ (obSt st id (.arr e es) false).objs i = some o' := by
      intro i o' h
      have hne : i ≠ id := fun e => by subst e; rw [hno] at h; cases h
      exact ⟨hne, (put_other _ _ _ hne).trans h⟩
    have hid : (obSt st id (.arr e es) false).objs id = some (.arr e es) := put_same _ _ _
    obtain ⟨ei, he, _, har⟩ := H'.obj id _ hid
    obtain ⟨M', hM, hMo, hMc, hr⟩ := frz_rep he har (fun b hb off sp => (H'.own id _ b hid hb).2 off sp)
    obtain ⟨rfl, _⟩ : u = ι' id ∧ _ := hv
    have Hn : HRel E.tt X w0 Mx ι' M' st.objs w' := by
      refine ⟨?_, ?_, ?_, ?_, fun ad v h => hM ad v (H'.memx ad v h), ?_, H'.os, H'.tape, H'.output, H'.size, H'.keep⟩
      · intro i o' h
        exact (H'.obj i o' (hobs i o' h).2).congr rfl (fun _ _ => rfl) hM (fun _ _ => rfl)
      · intro i j oi oj b hi hj hij hbi hbj
        exact H'.disj i j oi oj b (hobs i oi hi).2 (hobs j oj hj).2 hij hbi hbj
      · intro i o' b h hb
        obtain ⟨hi, ho'⟩ := hobs i o' h
        obtain ⟨q1, q2⟩ := H'.own i o' b ho' hb
        refine ⟨q1, fun off sp => ?_⟩
        rw [hMo ⟨b, off, sp⟩ (fun e => H'.disj i id o' _ b ho' hid hi hb e)]
        exact q2 off sp
      · intro ad v hv
        rcases hMc ad v hv with h | h
        · exact H'.mem ad v h
        · exact h
      · intro ad hb hX
        rw [hMo ad (fun e => ?_)]
        · exact H'.memB ad hb hX
        · rcases (H'.own id _ ad.block hid e).1 with h | h
          · omega
          · exact hX h
    have hsl2 : ∀ t s1, st.slots t = some s1 → ∃ s0, st.slots t = some s0 ∧ ∀ v0, SVRel E.tt ι M s0 v0 → SVRel E.tt ι' M' s1 v0 := by
      intro t s1 ht
      obtain ⟨s0, h0, h1⟩ := hsl t s1 ht
      exact ⟨s0, h0, fun v0 hv0 => (h1 v0 hv0).congr (fun _ _ => rfl) hM⟩
    have := hnext _ _ (ri_step (u := ι' id) hn hg hi hnd hdep hs hgi hcl hsz hdf hpin hpd (s := st) ⟨ι', M', Hn, hsl2, fun _ => hr⟩ rfl hwf (v := .val (.slice e) (.list es)) (fun i hi => by cases hi) (fun _ _ => hL) hput)
    unfold Oper.wp
    rcases hrun with hrun | ⟨hrun, hun⟩
    · rw [hrun]; exact this
    · rw [hrun]; rw [hun] at this; exact this
  have stepCall : ∀ {L : List (Nat × Bool)} {f : Nat} {ds : List D} {rs : List RM} {r : List D} {u : Upd}, HoldsL a (chainOf ops.toList i) → HoldsL a L → opO E draw st ops.toList L o = some (.call f ds rs) → callk f ds = some r → resUpd st rs o.dst r = some u →
      applyU st o.dst u = some st' → o.wp P a w next Q := by
    intro L f ds rs r u hL hL' ho hr hres hput
    obtain ⟨c, sg, hop, hsg, rfl, hcase⟩ := call_inv ho
    have hSw := H.same hS hX
    have hC0 : ∀ vs, (flatR sg.results = false ∧ ArgsRep E.tt M sg.params vs ds ∨ flatR sg.results = true ∧ ArgsRep E.tt (fullM w) sg.params vs ds) → noBoxP sg.params = true → CallsF P f vs.toArray w (RetV E w M sg.results r) := by
      intro vs hrep hvp
      rcases hrep with ⟨hfl, hrep⟩ | ⟨hfl, hrep⟩
      · exact (hcall f sg ds r hsg hr w M _ (fun _ => False) hSw (fun b h => h.elim) (argsOK_of hrep H.mem)).mono fun v w' hret => ret_vals (noBox_outs hvp) hret
      · exact (hcall f sg ds r hsg hr w (fullM w) _ (fun _ => False) hSw (fun b h => h.elim) (argsOK_of hrep (fun _ _ h => h))).mono fun v w' hret => ret_flat hfl H.mem (fun _ _ h => h) (ret_vals (noBox_outs hvp) hret)
    obtain ⟨vs, hC, hexec⟩ : ∃ vs : Array Value, CallsF P f vs w (RetV E w M sg.results r) ∧ (execOp a.eval o).run P w = (callFunc f vs).run P w := by
      rcases hcase with ⟨hcal, hargs⟩ | ⟨t, id, hcal, hclo, hfl, hargs⟩
      · refine ⟨(c.args.toList.map a.eval).toArray, hC0 _ ?_ (noBox_of_val (allValP_args hargs)), ?_⟩
        · cases hfl : flatR sg.results with
          | false =>
            rw [hfl] at hargs
            exact .inl ⟨rfl, args_rel (hev L hL') H (M1 := M) (fun _ _ h => h) (fun h => by cases h) sg.params c.args.toList ds hargs⟩
          | true =>
            rw [hfl] at hargs
            exact .inr ⟨rfl, args_rel (hev L hL') H (M1 := fullM w) H.mem (fun _ => rfl) sg.params c.args.toList ds hargs⟩
        · have hvals : (c.args.toList.map a.eval).toArray = c.args.map a.eval := by
            apply Array.toList_inj.1; simp
          rw [hvals]
          simp [execOp, hop, resolve, hcal, Act.eval, Deferred.ofValue, invoke]
      · obtain ⟨b, hb, hv⟩ := hev L hL' _ _ hclo
        refine ⟨(c.args.toList.map a.eval ++ [ι id]).toArray, hC0 _ (.inr ⟨hfl, argsC_rel hT (hev L hL') H sg.params c.args.toList ds hargs⟩) (argsC_box hargs), ?_⟩
        have hvals : (c.args.toList.map a.eval ++ [ι id]).toArray = c.args.map a.eval ++ #[.pointer (some ⟨b, 0, none⟩)] := by
          rw [hb]
          apply Array.toList_inj.1; simp
        rw [hvals]
        simp [execOp, hop, resolve, hcal, hv, Deferred.ofValue, invoke]
    have hfin : ∀ v w', RetV E w M sg.results r v w' → next (a.put o.dst v) w' := by
      intro v w' hret
      obtain ⟨hob, hleft⟩ := ret_left H hwf hret hres
      obtain ⟨⟨ι', M', H', hsl, hv⟩, hn', hwf', hr'⟩ := hleft
      refine hnext _ _ (ri_step (u := v) hn hg hi hnd hdep hs hgi hcl hsz hdf hpin hpd (s := { st with objs := putAll st.objs u.obs }) ⟨ι', M', H', hsl, fun _ => hv⟩ hn' hwf' hr' (fun _ _ => hL) ?_)
      unfold applyU at hput
      rw [hob] at hput
      simp only at hput
      revert hput
      cases u.obs with
      | nil => exact id
      | cons _ _ => exact id
    unfold Oper.wp
    rw [hexec]
    rcases hC with ⟨hrun, hC⟩ | ⟨v, w', hrun, hret⟩
    · rw [hrun]
      refine Calls.mono hC ?_
      intro e w' he
      cases e with
      | returned v => exact hfin v w' he
      | panicked c => exact he.elim
      | outgrown => exact he.elim
    · rw [hrun]
      exact hfin v w' hret
  unfold wpOp
  rw [hi']
  simp only
  unfold evalU at hp
  rw [hi] at hp
  simp only at hp
  cases hc : chainOf ops.toList i with
  | nil =>
    have hL : HoldsL a (chainOf ops.toList i) := by rw [hc]; intro p hp; cases hp
    rw [if_pos (hwant.2 hL)]
    rw [hc] at hp
    simp only at hp
    left
    have hL0 : HoldsL a [] := fun p hp => by cases hp
    cases ho : opO E draw st ops.toList [] o with
    | none => rw [ho] at hp; cases hp
    | some out =>
      rw [ho] at hp
      cases out with
      | sv c v =>
        obtain ⟨hcc, hp⟩ := cond_some.1 hp
        injection hp with hp; subst hp
        obtain ⟨u, hrun, hv⟩ := sv_sound hT (hev [] hL0) (hevp [] hL0) H.obj H.mem ho hcc
        unfold Oper.wp
        rw [hrun]
        exact stepSv hL (sv_there hwf ho) hv hu
      | ob c id ob scr v =>
        cases hlit : isLit E.sigs ops.toList o with
        | true =>
          rw [hlit] at hp
          obtain ⟨u, hgn, hp⟩ := opt_some.1 hp
          injection hp with hp; subst hp
          obtain ⟨id', e, es, heq, _, hno, rfl⟩ := gNew_out hgn
          rw [heq] at ho
          exact stepNew hL hL0 ho hno hu
        | false =>
        rw [hlit] at hp
        obtain ⟨hcc, hp⟩ := cond_some.1 hp
        injection hp with hp; subst hp
        exact stepSt hL (st_sound hT (hev [] hL0) H hwf ho hcc) hu
      | call f ds rs =>
        obtain ⟨_, hp⟩ := cond_some.1 hp
        obtain ⟨r, hr, hp⟩ := opt_some.1 hp
        obtain ⟨u, hres, hp⟩ := opt_some.1 hp
        injection hp with hp; subst hp
        obtain ⟨u0, hres0, hu0⟩ := resUpdD_inv hres hu
        exact stepCall hL hL0 ho hr hres0 hu0
      | hcall _ _ _ _ _ =>
        unfold isH at hnh
        rw [hi] at hnh
        simp only at hnh
        rw [hc] at hnh
        simp only at hnh
        rw [ho] at hnh
        cases hnh
  | cons q L =>
    rw [hc] at hp
    simp only at hp
    obtain ⟨hth, hp⟩ := cond_some.1 hp
    replace hgB := hgB (by rw [hc]; exact hth)
    rw [← hc] at hp
    cases ho : opO E draw st ops.toList (chainOf ops.toList i) o with
    | none => rw [ho] at hp; cases hp
    | some out =>
      rw [ho] at hp
      by_cases hL : HoldsL a (chainOf ops.toList i)
      · rw [if_pos (hwant.2 hL)]
        have hgb := hgB.2 hL
        rw [hgb] at hp
        left
        cases out with
        | sv c v =>
          obtain ⟨hcc, hp⟩ := cond_some.1 hp
          injection hp with hp; subst hp
          obtain ⟨u, hrun, hv⟩ := sv_sound hT (hev _ hL) (hevp _ hL) H.obj H.mem ho (by simpa using hcc)
          unfold Oper.wp
          rw [hrun]
          exact stepSv hL (sv_there hwf ho) hv hu
        | ob c id ob scr v =>
          obtain ⟨u, hgn, hp⟩ := opt_some.1 hp
          injection hp with hp; subst hp
          obtain ⟨id', e, es, heq, _, hno, rfl⟩ := gNew_out hgn
          rw [heq] at ho
          exact stepNew hL hL ho hno hu
        | call f ds rs =>
          obtain ⟨_, hp⟩ := cond_some.1 hp
          obtain ⟨r, hr, hp⟩ := opt_some.1 hp
          obtain ⟨u, hres, hp⟩ := opt_some.1 hp
          injection hp with hp; subst hp
          exact stepCall hL hL ho hr hres hu
        | hcall _ _ _ _ _ => cases hp
      · rw [if_neg (fun h => hL (hwant.1 h))]
        cases out with
        | sv c v =>
          obtain ⟨hcc, hp⟩ := cond_some.1 hp
          injection hp with hp; subst hp
          exact stepNo hL (sv_there hwf ho) hu
        | ob c id ob scr v =>
          obtain ⟨u, hgn, hp⟩ := opt_some.1 hp
          injection hp with hp; subst hp
          obtain ⟨id', e, es, heq, _, hno, rfl⟩ := gNew_out hgn
          exact stepNo hL (fun i hi => by cases hi) hu
        | call f ds rs =>
          obtain ⟨hv, hp⟩ := cond_some.1 hp
          obtain ⟨r, hr, hp⟩ := opt_some.1 hp
          obtain ⟨u, hres, hp⟩ := opt_some.1 hp
          injection hp with hp; subst hp
          obtain ⟨v, hv1, hv2⟩ := resUpd_vals hv o.dst r
          rw [hv1 st] at hres
          injection hres with hres; subst hres
          exact stepNo hL (fun i hi => by rw [hv2] at hi; cases hi) hu
        | hcall _ _ _ _ _ => cases hp

/-- A call to which boxes or rows are handed over. -/
theorem hop_sound {L : List (Nat × Bool)} {callk : Nat → List D → R} (hT : TTok P E.tt) {W0 : World} (hS : Same W0 w0) (hX : ∀ b, X b → W0.heap.size ≤ b) (hcall : CallOK P E W0 callk) {ops : Array Oper} (hn : nodupN (dstsOf ops.toList) = true) (hg : guardsOk ops.toList draw = true) {i : Nat} {o : Oper}
    (hi : nthOp ops.toList i = some o) (hnd : ¬ done i) (hdep : ∀ j w, o.guard = some (j, w) → done j) (hpd : ∀ t, o.dst = some t → pv t = none) (h : RI E X w0 Mx pv ops.toList done st a w) (hL : HoldsL a (chainOf ops.toList i)) (hL0 : HoldsL a L) {f : Nat} {ds : List D} {sg : Sig} {rows : List Nat} {boxes : List (Nat × TypeId × List CK)}
    (ho : opO E draw st ops.toList L o = some (.hcall f ds sg rows boxes)) {r : List D} (hr : callk f ds = some r) {st' : St} (hu : hUpd st sg o.dst rows boxes r = some st') {Q : Exit → Act → World → Prop} {next : Act → World → Prop}
    (hnext : ∀ a' w', RI E X w0 Mx pv ops.toList (fun k => done k ∨ k = i) st' a' w' → next a' w') : wpOp P ops Q i next a w := by
  obtain ⟨⟨ι, M, H, hs⟩, hgi, hcl, hwf, hsz, hdf, hpin⟩ := h
  have hi' : ops[i]? = some o := by rw [← nthOp_toList]; exact hi
  have hconst : ∀ v s, constSV v = some s → SVRel E.tt ι M s v := fun v s h => .of0 (const_rel h)
  have hwant := wanted_iff (draw := draw) hg hgi hi hdep
  have hev : ∀ x s, ev st ops.toList L x = some s → SVRel E.tt ι M s (a.eval x) := fun x s h => ev_rel hn hs hL0 hconst h
  obtain ⟨c, hop, hcal, hsg, rs, hargs, rfl⟩ := hcall_inv ho
  have hvals : (c.args.toList.map a.eval).toArray = c.args.map a.eval := by
    apply Array.toList_inj.1; simp
  have hexec : (execOp a.eval o).run P w = (callFunc f (c.args.map a.eval)).run P w := by
    simp [execOp, hop, resolve, hcal, Act.eval, Deferred.ofValue, invoke]
  obtain ⟨R0, hC, hfin⟩ : ∃ R0 : Value → World → Prop, CallsF P f (c.args.map a.eval) w R0 ∧ ∀ v w', R0 v w' → next (a.put o.dst v) w' := by
    unfold hUpd at hu
    cases hgone : sg.gone with
    | false =>
      rw [hgone, cond_false] at hu
      have houts : sg.outs = sg.params := by unfold Sig.outs; rw [hgone]; rfl
      unfold hUpd0 at hu
      replace hu := opt_some.1 hu
      obtain ⟨x, hx, hu⟩ := hu
      replace hu := cond_some.1 hu
      obtain ⟨hc, hput⟩ := hu
      simp only [Bool.and_eq_true] at hc
      obtain ⟨hc1, hc2, hc3, _⟩ := hc
      obtain ⟨bid, hbx, hbv, hAO⟩ := hargs_ok hT hev H hargs (nodupL_iff.1 hc1)
      have hC := hcall f sg ds r hsg hr w M _ (Xh st ι (sndL rs ++ boxIds boxes)) (H.same hS hX) (fun b ⟨j, _, oj, hoj, hbj⟩ => by
        rcases (H.own j oj b hoj hbj).1 with h | h
        · exact Nat.le_trans hS.size h
        · exact hX b h) hAO
      rw [hvals, houts] at hC
      refine ⟨_, hC, fun v w' hret => ?_⟩
      obtain ⟨ι', M', H', hsl, hv, hwf', hvr⟩ := hret_left H hwf hbx (fun p t cs hp => (hbv p t cs hp).1) hret hx hc2 hc3
      exact hnext _ _ (ri_step (u := v) hn hg hi hnd hdep hs hgi hcl hsz hdf hpin hpd (s := { dropRows (sndL rs) st with objs := putAll (dropRows (sndL rs) st).objs (x.2 ++ boxObjs boxes sg.results.length r) }) ⟨ι', M', H', hsl, fun _ => hv⟩ (drop_all (sndL rs) H hwf).n hwf' hvr (fun _ _ => hL) hput)
    | true =>
      rw [hgone, cond_true] at hu
      have houts : sg.outs = [] := by unfold Sig.outs; rw [hgone]; rfl
      unfold hUpd0 at hu
      replace hu := opt_some.1 hu
      obtain ⟨x, hx, hu⟩ := hu
      replace hu := cond_some.1 hu
      obtain ⟨hc, hput⟩ := hu
      simp only [Bool.and_eq_true] at hc
      obtain ⟨hc1, hc2, hc3, _⟩ := hc
      have hb0 : boxIds ([] : List (Nat × TypeId × List CK)) = [] := rfl
      rw [hb0, List.append_nil] at hc1
      obtain ⟨bid, hbx, hbv, hAO⟩ := hargs_ok hT hev H hargs (nodupL_iff.1 hc1)
      have hC := hcall f sg ds r hsg hr w M _ (Xh st ι (sndL rs ++ boxIds boxes)) (H.same hS hX) (fun b ⟨j, _, oj, hoj, hbj⟩ => by
        rcases (H.own j oj b hoj hbj).1 with h | h
        · exact Nat.le_trans hS.size h
        · exact hX b h) hAO
      rw [hvals, houts] at hC
      refine ⟨_, hC, fun v w' hret => ?_⟩
      obtain ⟨ι', M', H', hsl, hv, hwf', hvr⟩ := hret_left (ps := []) (rows := sndL rs ++ boxIds boxes) (boxes := []) (bid := fun _ => 0) H hwf rfl (fun p t cs hp => by simp at hp) (by rw [hb0, List.append_nil]; exact hret) hx hc2 hc3
      exact hnext _ _ (ri_step (u := v) hn hg hi hnd hdep hs hgi hcl hsz hdf hpin hpd (s := { dropRows (sndL rs ++ boxIds boxes) st with objs := putAll (dropRows (sndL rs ++ boxIds boxes) st).objs (x.2 ++ boxObjs [] sg.results.length r) }) ⟨ι', M', H', hsl, fun _ => hv⟩ (drop_all (sndL rs ++ boxIds boxes) H hwf).n hwf' hvr (fun _ _ => hL) hput)
  unfold wpOp
  rw [hi']
  simp only
  rw [if_pos (hwant.2 hL)]
  left
  unfold Oper.wp
  rw [hexec]
  rcases hC with ⟨hrun, hC⟩ | ⟨v, w', hrun, hret⟩
  · rw [hrun]
    refine Calls.mono hC ?_
    intro e w' he
    cases e with
    | returned v => exact hfin v w' he
    | panicked c => exact he.elim
    | outgrown => exact he.elim
  · rw [hrun]
    exact hfin v w' hret

theorem rowObjs_plain : ∀ (cs : List CK) (i c : Nat) (d : D), plainC cs = true → rowObjs i cs c d = [] := by
  intro cs
  induction cs with
  | nil => intro i c d _; rfl
  | cons k r ih =>
    intro i c d h
    cases k with
    | val k => exact ih i (c + 1) d h
    | row e => cases h
    | lent => cases h
    | self => exact ih i (c + 1) d h
theorem resSV_len : ∀ {rs : List RM} {base j : Nat} {ds : List D} {svs : List SV} {os : List (Nat × Obj)}, resSV rs base j ds = some (svs, os) → svs.length = rs.length := by
  intro rs
  induction rs with
  | nil => intro base j ds svs os h; injection h with h; injection h with h1 h2; subst h1; rfl
  | cons r rs ih =>
    intro base j ds svs os h
    cases r <;> (simp only [resSV] at h; obtain ⟨x, hx, h⟩ := opt_some.1 h; obtain ⟨x1, x2⟩ := x; injection h with h; injection h with h1 h2; subst h1; simp only [List.length_cons]; rw [ih hx])
theorem hUpd_of_D {sg : Sig} {dst : Option Nat} {i : Nat} {t : TypeId} {cs : List CK} {r : List D} {u : Upd} {st' : St} (hg : sg.gone = false) (hv : allValR sg.results = true) (hcs : plainC cs = true) (hu : hUpdD st sg dst [(i, t, cs)] r = some u) (hap : applyU st dst u = some st') :
    hUpd st sg dst [] [(i, t, cs)] r = some st' := by
  obtain ⟨ps, rs, gn⟩ := sg
  simp only at hg hv
  subst hg
  unfold hUpdD at hu
  obtain ⟨u0, hu0, hu⟩ := opt_some.1 hu
  injection hu with hu; subst hu
  simp only at hu0 hap
  have hbo : boxObjs [(i, t, cs)] rs.length r = [(i, .box t (.cells (mkCells i cs 0 (r.getD rs.length .no))))] := by
    simp only [boxObjs, boxOb, plain_lent hcs, cond_false, rowObjs_plain cs i 0 _ hcs, List.append_nil]
  have core : ∀ svs : List SV, (∀ d, dst = some d → u0.v = oneV svs) → (opt (some (svs, ([] : List (Nat × Obj)))) fun x => cond (nodupL ([] ++ boxIds [(i, t, cs)]) && (nodupL (keysN (x.2 ++ boxObjs [(i, t, cs)] rs.length r)) && (freshOr (dropRows [] st) (boxIds [(i, t, cs)]) (x.2 ++ boxObjs [(i, t, cs)] rs.length r) && (allValR rs || dst.isSome))))
      (putSlot { dropRows [] st with objs := putAll (dropRows [] st).objs (x.2 ++ boxObjs [(i, t, cs)] rs.length r) } dst (oneV x.1)) none) = some st' := by
    intro svs hvv
    rw [hbo]
    simp only [opt_val, List.nil_append, boxIds, keysN, nodupL, memN, freshOr, beq_self, hv, cond_true, cond_false, Bool.true_or, Bool.true_and, Bool.and_true, dropRows, putAll]
    refine Eq.trans ?_ hap
    cases dst with
    | none => rfl
    | some d =>
      unfold applyU
      simp only
      rw [hvv d rfl]
      rfl
  unfold hUpd hUpd0
  simp only [cond_false]
  cases dst with
  | none =>
    obtain ⟨svs, h1, _, _⟩ := resSV_vals rs 0 0 r hv
    simp only
    rw [h1]
    exact core svs (fun d h => by cases h)
  | some q =>
    cases rs with
    | nil =>
      refine core [] (fun d _ => ?_)
      injection hu0 with hu0; subst hu0; rfl
    | cons r1 rs =>
      cases rs with
      | nil =>
        obtain ⟨svs, h1, _, _⟩ := resSV_vals [r1] q 0 r hv
        simp only at hu0 ⊢
        rw [h1]
        refine core svs (fun d _ => ?_)
        simp only [resUpd, h1, opt_val, freshAll, cond_true] at hu0
        split at hu0
        · injection hu0 with hu0; subst hu0; rfl
        · cases hu0
      | cons r2 rs =>
        obtain ⟨svs, h1, _, _⟩ := resSV_vals (r1 :: r2 :: rs) (500000 + 16 * q) 0 r hv
        simp only at hu0 ⊢
        rw [h1]
        refine core svs (fun d _ => ?_)
        simp only [resUpd, h1, opt_val, freshAll, cond_true] at hu0
        injection hu0 with hu0; subst hu0
        have hl : 2 ≤ svs.length := by
          have := resSV_len h1
          simp only [List.length_cons] at this
          omega
        match svs, hl with
        | a :: b :: l, _ => rfl
theorem op_sound {callk : Nat → List D → R} (hT : TTok P E.tt) {W0 : World} (hS : Same W0 w0) (hX : ∀ b, X b → W0.heap.size ≤ b) (hcall : CallOK P E W0 callk) {ops : Array Oper} (hn : nodupN (dstsOf ops.toList) = true) (hg : guardsOk ops.toList draw = true) {i : Nat} {o : Oper}
    (hi : nthOp ops.toList i = some o) (hnd : ¬ done i) (hdep : ∀ j w, o.guard = some (j, w) → done j) (hpd : ∀ t, o.dst = some t → pv t = none) (h : RI E X w0 Mx pv ops.toList done st a w) {p : Option Nat × Upd} {st' : St}
    (hp : evalU E callk ops.toList draw i st = some p) (hu : applyU st p.1 p.2 = some st') {Q : Exit → Act → World → Prop} {next : Act → World → Prop}
    (hnext : ∀ a' w', RI E X w0 Mx pv ops.toList (fun k => done k ∨ k = i) st' a' w' → next a' w') : wpOp P ops Q i next a w := by
  cases hH : isH E ops.toList draw i st with
  | false => exact op_sound0 hT hS hX hcall hn hg hi hnd hdep hpd h hp hH hu hnext
  | true =>
    unfold isH at hH
    unfold evalU at hp
    rw [hi] at hH hp
    simp only at hH hp
    cases hch : chainOf ops.toList i with
    | cons q L =>
      rw [hch] at hH hp
      simp only at hH hp
      obtain ⟨_, hp⟩ := cond_some.1 hp
      cases hop : opO E draw st ops.toList (q :: L) o with
      | none => rw [hop] at hH; cases hH
      | some out =>
        rw [hop] at hH hp
        cases out with
        | hcall f ds sg rows boxes => cases hp
        | _ => cases hH
    | nil =>
      rw [hch] at hH hp
      simp only at hH hp
      cases hop : opO E draw st ops.toList [] o with
      | none => rw [hop] at hH; cases hH
      | some out =>
        rw [hop] at hH hp
        cases out with
        | hcall f ds sg rows boxes =>
          obtain ⟨hd, hp⟩ := cond_some.1 hp
          obtain ⟨r, hr, hp⟩ := opt_some.1 hp
          obtain ⟨u, hu2, hp⟩ := opt_some.1 hp
          injection hp with hp; subst hp
          obtain ⟨hds, c, _, _, _, rs, hargs, hrs⟩ := hcall_inv2 hop
          have hsi : simpleH sg = true := by rcases hds with h | h; (rw [hd] at h; cases h); exact h
          unfold simpleH at hsi
          simp only [Bool.and_eq_true, Bool.not_eq_true'] at hsi
          obtain ⟨j, t, cs, rfl, hcs, rfl, _, _⟩ := hargs_one _ _ _ _ _ _ hargs hsi.1
          subst hrs
          exact hop_sound hT hS hX hcall hn hg hi hnd hdep hpd h (by rw [hch]; intro p hp; cases hp) (fun p hp => by cases hp) hop hr (hUpd_of_D hsi.2.2 hsi.2.1 hcs hu2 hu) hnext
        | _ => cases hH
/-- A call to which boxes or rows are handed over, where the text's order holds; under guards or not. -/
theorem hopG_sound {α : Type} {callk : Nat → List D → R} (hT : TTok P E.tt) {W0 : World} (hS : Same W0 w0) (hX : ∀ b, X b → W0.heap.size ≤ b) (hcall : CallOK P E W0 callk) {ops : Array Oper} (hn : nodupN (dstsOf ops.toList) = true) (hg : guardsOk ops.toList draw = true) {i : Nat} {o : Oper}
    (hi : nthOp ops.toList i = some o) (hnd : ¬ done i) (hdep : ∀ j w, o.guard = some (j, w) → done j) (hpd : ∀ t, o.dst = some t → pv t = none) (h : RI E X w0 Mx pv ops.toList done st a w) (hd : draw = false) (hH : isH E ops.toList draw i st = true)
    {K : St → Option α} {r : α} (hk : opK E callk ops.toList draw i st K = some r) {Q : Exit → Act → World → Prop} {next : Act → World → Prop}
    (hnext : ∀ st' a' w', K st' = some r → RI E X w0 Mx pv ops.toList (fun k => done k ∨ k = i) st' a' w' → next a' w') : wpOp P ops Q i next a w := by
  unfold isH at hH
  unfold opK at hk
  rw [hi] at hH hk
  simp only at hH hk
  cases hch : chainOf ops.toList i with
  | nil =>
    rw [hch] at hH hk
    simp only at hH hk
    cases hop : opO E draw st ops.toList [] o with
    | none => rw [hop] at hH; cases hH
    | some out =>
      rw [hop] at hH hk
      cases out with
      | hcall f ds sg rows boxes =>
        simp only [hd, cond_false] at hk
        obtain ⟨r', hr', hk⟩ := opt_some.1 hk
        obtain ⟨st', hu, hk⟩ := opt_some.1 hk
        exact hop_sound hT hS hX hcall hn hg hi hnd hdep hpd h (by rw [hch]; intro p hp; cases hp) (fun p hp => by cases hp) hop hr' hu fun a' w' h' => hnext st' a' w' hk h'
      | _ => cases hH
  | cons q L =>
    rw [hch] at hH hk
    simp only at hH hk
    obtain ⟨hth, hk⟩ := cond_some.1 hk
    rw [← hch] at hth hH hk
    cases hop : opO E draw st ops.toList (chainOf ops.toList i) o with
    | none => rw [hop] at hH; cases hH
    | some out =>
      rw [hop] at hH hk
      cases out with
      | hcall f ds sg rows boxes =>
        obtain ⟨hav, hk⟩ := cond_some.1 hk
        rw [hd] at hav
        replace hav : allValR sg.results = true := hav
        have hh := h
        obtain ⟨⟨ι, M, H, hs⟩, hgi, hcl, hwf, hsz, hdf, hpin⟩ := hh
        have hi' : ops[i]? = some o := by rw [← nthOp_toList]; exact hi
        have hwant := wanted_iff (draw := draw) hg hgi hi hdep
        have hgB := guardB_iff (E := E) hn hg hs (i + 1) i o (by omega) hi hth
        by_cases hL : HoldsL a (chainOf ops.toList i)
        · rw [hgB.2 hL, cond_true] at hk
          obtain ⟨r', hr', hk⟩ := opt_some.1 hk
          obtain ⟨st', hu, hk⟩ := opt_some.1 hk
          exact hop_sound hT hS hX hcall hn hg hi hnd hdep hpd h hL hL hop hr' hu fun a' w' h' => hnext st' a' w' hk h'
        · have hgb : guardB st (chainOf ops.toList i) = false := by
            cases hb : guardB st (chainOf ops.toList i) with
            | false => rfl
            | true => exact absurd (hgB.1 hb) hL
          rw [hgb, cond_false] at hk
          obtain ⟨u, hres, hk⟩ := opt_some.1 hk
          obtain ⟨st', hu, hk2⟩ := opt_some.1 hk
          clear hk
          obtain ⟨v, hv1, hv2⟩ := resUpd_vals hav o.dst []
          rw [hv1 st] at hres
          injection hres with hres; subst hres
          unfold wpOp
          rw [hi']
          simp only
          rw [if_neg (fun h => hL (hwant.1 h))]
          exact hnext st' _ _ hk2 (ri_step hn hg hi hnd hdep hs hgi hcl hsz hdf hpin hpd (s := st) (v := v) (u := undef) ⟨ι, M, H, fun t s1 h => ⟨s1, h, fun _ h => h⟩, fun h => absurd h hL⟩ rfl hwf (fun i hi => by rw [hv2] at hi; cases hi) (fun b hb => absurd hb (undef_ne_bool b)) hu)
      | _ => cases hH
end
end Go.Proofs.YtcmeincdmphaoaaDoor.DS
