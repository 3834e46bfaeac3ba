/- Boxes and rows that are handed over: the arguments. -/
import Derived.Test.YtjofkhdnidjleabDoorDuB
set_option linter.unusedVariables false
set_option linter.unusedSimpArgs false
namespace Go.Proofs.YtjofkhdnidjleabDoor.DS

theorem boxesP_congr {bid bid' : Nat → Nat} : ∀ (ps : List PM) (p : Nat), (∀ q, p ≤ q → bid q = bid' q) → boxesP bid p ps = boxesP bid' p ps := by
  intro ps
  induction ps with
  | nil => intro p h; rfl
  | cons x r ih =>
    intro p h
    cases x with
    | box t cs => simp only [boxesP, h p (Nat.le_refl _), ih (p + 1) (fun q hq => h q (by omega))]
    | _ => exact ih (p + 1) (fun q hq => h q (by omega))
theorem boxIds_mem {bid : Nat → Nat} : ∀ (ps : List PM) (p q : Nat) (t : TypeId) (cs : List CK), ps[q]? = some (.box t cs) → bid (p + q) ∈ boxIds (boxesP bid p ps) := by
  intro ps
  induction ps with
  | nil => intro p q t cs h; simp at h
  | cons x r ih =>
    intro p q t cs h
    cases q with
    | zero => simp at h; subst h; exact List.mem_cons_self
    | succ q =>
      have := ih (p + 1) q t cs (by simpa using h)
      rw [show p + 1 + q = p + (q + 1) by omega] at this
      cases x with
      | box t' cs' => exact List.mem_cons_of_mem _ this
      | _ => exact this
theorem boxIds_inj {bid : Nat → Nat} : ∀ (ps : List PM) (p q q' : Nat) (t t' : TypeId) (cs cs' : List CK), (boxIds (boxesP bid p ps)).Nodup → ps[q]? = some (.box t cs) → ps[q']? = some (.box t' cs') → bid (p + q) = bid (p + q') → q = q' := by
  intro ps
  induction ps with
  | nil => intro p q q' t t' cs cs' _ h; simp at h
  | cons x r ih =>
    intro p q q' t t' cs cs' hn h h' he
    have tail : (boxIds (boxesP bid (p + 1) r)).Nodup := by
      cases x with
      | box _ _ => exact (List.nodup_cons.1 hn).2
      | _ => exact hn
    cases q with
    | zero =>
      cases q' with
      | zero => rfl
      | succ q' =>
        simp at h; subst h
        have := boxIds_mem (bid := bid) r (p + 1) q' t' cs' (by simpa using h')
        rw [show p + 1 + q' = p + (q' + 1) by omega, ← he] at this
        exact absurd this (List.nodup_cons.1 hn).1
    | succ q =>
      cases q' with
      | zero =>
        simp at h'; subst h'
        have := boxIds_mem (bid := bid) r (p + 1) q t cs (by simpa using h)
        rw [show p + 1 + q = p + (q + 1) by omega, he] at this
        exact absurd this (List.nodup_cons.1 hn).1
      | succ q' =>
        have := ih (p + 1) q q' t t' cs cs' tail (by simpa using h) (by simpa using h') (by rw [show p + 1 + q = p + (q + 1) by omega, show p + 1 + q' = p + (q' + 1) by omega]; exact he)
        omega
theorem sndL_mem {rs : List (Nat × Nat)} {a j : Nat} (h : (a, j) ∈ rs) : j ∈ sndL rs := by
  induction rs with
  | nil => cases h
  | cons x r ih =>
    obtain ⟨b, k⟩ := x
    rcases List.mem_cons.1 h with h | h
    · injection h with h1 h2; subst h2; exact List.mem_cons_self
    · exact List.mem_cons_of_mem _ (ih h)
theorem sndL_inj {rs : List (Nat × Nat)} {a b j : Nat} (hn : (sndL rs).Nodup) (h : (a, j) ∈ rs) (h' : (b, j) ∈ rs) : a = b := by
  induction rs with
  | nil => cases h
  | cons x r ih =>
    obtain ⟨c, k⟩ := x
    obtain ⟨h1, h2⟩ := List.nodup_cons.1 (show (k :: sndL r).Nodup from hn)
    rcases List.mem_cons.1 h with g | g <;> rcases List.mem_cons.1 h' with g' | g'
    · injection g with e1 e2; injection g' with e3 e4; omega
    · injection g with e1 e2; subst e2; exact absurd (sndL_mem g') h1
    · injection g' with e1 e2; subst e2; exact absurd (sndL_mem g) h1
    · exact ih h2 g g'

section
variable {P : Program} {E : Env} (hT : TTok P E.tt) {st : St} {ops : List Oper} {a : Act} {w w0 : World} {X : Nat → Prop} {Mx : Mem} {ι : Nat → Value} {M : Mem} {vs : List Value}

structure HArgs (E : Env) (st : St) (w : World) (ι : Nat → Value) (M : Mem) (vs : List Value) (p : Nat) (ps : List PM) (ds : List D) (rs : List (Nat × Nat)) (boxes : List (Nat × TypeId × List CK)) : Prop where
  ex : ∃ sl os, ∃ bid : Nat → Nat, paramSt ps p ds = some (sl, os) ∧
    (∀ t s, lk t sl = some s → (∃ v, vs[t]? = some v ∧ SVRel E.tt (ιc w vs) M s v) ∧ ∀ i, i ∈ refsOf s → ∃ o, lk i os = some o) ∧
    (∀ j o, lk j os = some o → ∀ i, i ∈ objRefs0 o → ∃ o', lk i os = some o') ∧
    (∀ id o, lk id os = some o → ObjRel E.tt (ιc w vs) M w id o ∧ (ιc w vs id = .slice none 0 0 ∨ (∃ i, (id, i) ∈ rs ∧ (∃ o, st.objs i = some o) ∧ ιc w vs id = ι i) ∨ ∃ q t cs, ps[q]? = some (.box t cs) ∧ id = p + q ∧ ιc w vs id = ι (bid (p + q)))) ∧
    boxes = boxesP bid p ps ∧ ∀ q t cs, ps[q]? = some (.box t cs) → (∃ o, st.objs (bid (p + q)) = some o) ∧ vs[p + q]? = some (ι (bid (p + q)))

include hT in
theorem hargs_ind (hev : ∀ x s, ev st ops [] x = some s → SVRel E.tt ι M s (a.eval x)) (H : HRel E.tt X w0 Mx ι M st.objs w) : ∀ (ps : List PM) (p : Nat) (xs : List Operand) ds rs boxes, hargsO E st ops [] p ps xs = some (ds, rs, boxes) →
    (∀ (q : Nat) x, xs[q]? = some x → vs[p + q]? = some (a.eval x)) → xs.length = ps.length ∧ HArgs E st w ι M vs p ps ds rs boxes := by
  intro ps
  induction ps with
  | nil =>
    intro p xs ds rs boxes h _
    cases xs with
    | nil =>
      injection h with h; injection h with h1 h; injection h with h2 h3; subst h1 h2 h3
      exact ⟨rfl, [], [], fun _ => 0, rfl, fun t s h => (by cases h), fun j o h => (by cases h), fun id o h => (by cases h), rfl, fun q t cs h => by simp at h⟩
    | cons _ _ => cases h
  | cons pm ps ih =>
    intro p xs ds rs boxes h hvs
    cases xs with
    | nil => cases pm <;> cases h
    | cons x0 xs =>
      have hv0 : vs[p]? = some (a.eval x0) := hvs 0 x0 rfl
      have hvs' : ∀ (q : Nat) y, xs[q]? = some y → vs[p + 1 + q]? = some (a.eval y) := fun q y hy => by
        rw [show p + 1 + q = p + (q + 1) by omega]; exact hvs (q + 1) y (by simpa using hy)
      have up : ∀ {ps : List PM} {pm : PM} {q : Nat} {t : TypeId} {cs : List CK}, ps[q]? = some (.box t cs) → (pm :: ps)[q + 1]? = some (.box t cs) := fun h => by simpa using h
      cases pm with
      | ref k => cases h
      | val k =>
        simp only [hargsO] at h
        replace h := opt_some.1 h
        obtain ⟨s, hs, h⟩ := h
        replace h := opt_some.1 h
        obtain ⟨d, hd, h⟩ := h
        replace h := opt_some.1 h
        obtain ⟨r, hr, h⟩ := h
        injection h with h; injection h with h1 h; injection h with h2 h3; subst h1 h2 h3
        obtain ⟨hl, sl, os, bid, q1, q2, q3, q4, q5, q6⟩ := ih (p + 1) xs r.1 r.2.1 r.2.2 hr hvs'
        have hrep := svD_rel hd (hev x0 s hs)
        refine ⟨by simp [hl], (p, .val k (canon k d)) :: sl, os, bid, by simp only [paramSt, q1, opt], ?_, q3, ?_, q5, ?_⟩
        · intro t s1 ht
          simp only [lk] at ht
          cases hb : Nat.beq t p with
          | true =>
            rw [hb] at ht; injection ht with ht; subst ht
            have := beq_iff.1 hb; subst this
            refine ⟨⟨_, hv0, ?_⟩, fun i hi => by cases hi⟩
            show Rep E.tt M k _ (canon k d)
            rw [hrep.canon]; exact hrep
          | false => rw [hb] at ht; exact q2 t s1 ht
        · intro id o ho
          obtain ⟨r1, r2⟩ := q4 id o ho
          refine ⟨r1, ?_⟩
          rcases r2 with r2 | r2 | ⟨q, t, cs, r3, r4, r5⟩
          · exact .inl r2
          · exact .inr (.inl r2)
          · exact .inr (.inr ⟨q + 1, t, cs, up r3, by omega, by rw [r5]; congr 2; omega⟩)
        · intro q t cs hq
          cases q with
          | zero => simp at hq
          | succ q =>
            have := q6 q t cs (by simpa using hq)
            rw [show p + (q + 1) = p + 1 + q by omega]; exact this
      | own e =>
        simp only [hargsO] at h
        replace h := opt_some.1 h
        obtain ⟨s, hs, h⟩ := h
        have hsv := hev x0 s hs
        have fin : ∀ es r, hargsO E st ops [] (p + 1) ps xs = some r → ds = .list es :: r.1 → boxes = r.2.2 → (∀ y ∈ r.2.1, y ∈ rs) → p ≤ 1000 → (∃ x n y, a.eval x0 = .slice x n y) → ObjRel E.tt (ιc w vs) M w p (.arr e es) →
            (ιc w vs p = .slice none 0 0 ∨ ∃ i, (p, i) ∈ rs ∧ (∃ o, st.objs i = some o) ∧ ιc w vs p = ι i) → (x0 :: xs).length = (PM.own e :: ps).length ∧ HArgs E st w ι M vs p (.own e :: ps) ds rs boxes := by
          intro es r hr hds hbx hsub hp hsl hob hsrc
          obtain ⟨hl, sl, os, bid, q1, q2, q3, q4, q5, q6⟩ := ih (p + 1) xs r.1 r.2.1 r.2.2 hr hvs'
          subst hds
          have hιp : ιc w vs p = a.eval x0 := ιc_param hv0 hp
          refine ⟨by simp [hl], (p, .own p) :: sl, (p, .arr e es) :: os, bid, by simp only [paramSt, q1, opt, D.toList], ?_, ?_, ?_, by rw [hbx, q5]; rfl, ?_⟩
          · have hin : ∀ i o, lk i os = some o → ∃ o, lk i ((p, Obj.arr e es) :: os) = some o := by
              intro i o ho
              simp only [lk]
              cases hb : Nat.beq i p with
              | true => exact ⟨_, rfl⟩
              | false => exact ⟨o, ho⟩
            intro t s1 ht
            simp only [lk] at ht
            cases hb : Nat.beq t p with
            | true =>
              rw [hb] at ht; injection ht with ht; subst ht
              have := beq_iff.1 hb; subst this
              refine ⟨⟨_, hv0, hιp.symm, by rw [hιp]; exact hsl⟩, fun i hi => ?_⟩
              simp [refsOf, refs0] at hi; subst hi
              exact ⟨.arr e es, by simp only [lk, beq_self, cond_true]⟩
            | false =>
              rw [hb] at ht
              obtain ⟨r1, r2⟩ := q2 t s1 ht
              exact ⟨r1, fun i hi => by obtain ⟨o, ho⟩ := r2 i hi; exact hin i o ho⟩
          · intro j o ho i hi
            simp only [lk] at ho
            cases hb : Nat.beq j p with
            | true => rw [hb] at ho; injection ho with ho; subst ho; cases hi
            | false =>
              rw [hb] at ho
              obtain ⟨o', ho'⟩ := q3 j o ho i hi
              simp only [lk]
              cases hb : Nat.beq i p with
              | true => exact ⟨_, rfl⟩
              | false => exact ⟨o', ho'⟩
          · intro id o ho
            simp only [lk] at ho
            cases hb : Nat.beq id p with
            | true =>
              rw [hb] at ho; injection ho with ho; subst ho
              have := beq_iff.1 hb; subst this
              refine ⟨hob, ?_⟩
              rcases hsrc with h | h
              · exact .inl h
              · exact .inr (.inl h)
            | false =>
              rw [hb] at ho
              obtain ⟨r1, r2⟩ := q4 id o ho
              refine ⟨r1, ?_⟩
              rcases r2 with r2 | ⟨i, r2, r3⟩ | ⟨q, t, cs, r3, r4, r5⟩
              · exact .inl r2
              · exact .inr (.inl ⟨i, hsub _ r2, r3⟩)
              · exact .inr (.inr ⟨q + 1, t, cs, up r3, by omega, by rw [r5]; congr 2; omega⟩)
          · intro q t cs hq
            cases q with
            | zero => simp at hq
            | succ q =>
              have := q6 q t cs (by simpa using hq)
              rw [show p + (q + 1) = p + 1 + q by omega]; exact this
        cases s with
        | nil =>
          simp only at h
          cases hei : lk e E.tt with
          | none => rw [hei] at h; cases h
          | some ei =>
            rw [hei] at h
            replace h := cond_some.1 h
            obtain ⟨hle, h⟩ := h
            simp only [Bool.and_eq_true] at hle
            replace h := opt_some.1 h
            obtain ⟨r, hr, h⟩ := h
            injection h with h; injection h with h1 h; injection h with h2 h3; subst h1 h2 h3
            have hp := Nat.le_of_ble_eq_true hle.2
            have hv : a.eval x0 = .slice none 0 0 := hsv
            have hιp : ιc w vs p = .slice none 0 0 := (ιc_param hv0 hp).trans hv
            exact fin [] r hr rfl rfl (fun _ h => h) hp ⟨_, _, _, hv⟩ ⟨ei, hei, Nat.le_of_ble_eq_true hle.1, .inl ⟨hιp, rfl⟩⟩ (.inl hιp)
        | own i =>
          simp only at h
          cases hob : st.objs i with
          | none => rw [hob] at h; cases h
          | some o =>
            rw [hob] at h
            cases o with
            | box _ _ => cases h
            | arr e' es =>
              replace h := cond_some.1 h
              obtain ⟨he, h⟩ := h
              simp only [Bool.and_eq_true] at he
              have hp := Nat.le_of_ble_eq_true he.2
              have he := beq_iff.1 he.1
              subst he
              replace h := opt_some.1 h
              obtain ⟨r, hr, h⟩ := h
              injection h with h; injection h with h1 h; injection h with h2 h3; subst h1 h2 h3
              obtain ⟨hv, y1, y2, y3, hy⟩ : a.eval x0 = ι i ∧ ∃ a n c, ι i = .slice a n c := hsv
              have hιp : ιc w vs p = ι i := (ιc_param hv0 hp).trans hv
              obtain ⟨ei, g1, g2, g3⟩ := H.obj i _ hob
              exact fin es r hr rfl rfl (fun _ h => List.mem_cons_of_mem _ h) hp ⟨_, _, _, hv.trans hy⟩ ⟨ei, g1, g2, by rw [hιp]; exact g3⟩ (.inr ⟨i, List.mem_cons_self, ⟨_, hob⟩, hιp⟩)
        | _ => cases h
      | box t cs =>
        simp only [hargsO] at h
        replace h := opt_some.1 h
        obtain ⟨s, hs, h⟩ := h
        have hsv := hev x0 s hs
        cases s with
        | bptr i u off k =>
          simp only at h
          replace h := cond_some.1 h
          obtain ⟨hc, h⟩ := h
          simp only [Bool.and_eq_true] at hc
          obtain ⟨hc1, hc2, hc3, hc4, hc5⟩ := hc
          have hc5 := KT.eq_iff.1 hc5
          have hc1 := beq_iff.1 hc1
          have hc2 := beq_iff.1 hc2
          have hc3 := Nat.le_of_ble_eq_true hc3
          have hp := Nat.le_of_ble_eq_true hc4
          subst hc1 hc2
          cases hob : st.objs i with
          | none => rw [hob] at h; cases h
          | some o =>
            rw [hob] at h
            cases o with
            | arr _ _ => cases h
            | box u' c =>
              replace h := cond_some.1 h
              obtain ⟨he, h⟩ := h
              have he := beq_iff.1 he
              subst he
              replace h := opt_some.1 h
              obtain ⟨ti, hti, h⟩ := h
              replace h := opt_some.1 h
              obtain ⟨y, hy, h⟩ := h
              replace h := opt_some.1 h
              obtain ⟨r, hr, h⟩ := h
              injection h with h; injection h with h1 h; injection h with h2 h3; subst h1 h2 h3
              obtain ⟨hl, sl, os, bid, q1, q2, q3, q4, q5, q6⟩ := ih (p + 1) xs r.1 r.2.1 r.2.2 hr hvs'
              obtain ⟨hka, b, hι, hv⟩ := hsv
              obtain ⟨ti', b', cc, hti', hι', hheap, hbc⟩ := H.obj i _ hob
              rw [hti] at hti'; cases hti'
              rw [hι] at hι'; injection hι' with hι'; injection hι' with hι'; injection hι' with hb; subst hb
              obtain ⟨b1, b2, b3⟩ := toCells_rel hT hti hbc
              have hιp : ιc w vs p = .pointer (some ⟨b, 0, none⟩) := (ιc_param hv0 hp).trans hv
              have hcell : ∀ j, w.cell? ⟨b, j, none⟩ = cc[j]? := fun j => by simp [World.cell?, hheap]
              have hv0' : vs[p]? = some (.pointer (some ⟨b, 0, none⟩)) := by rw [hv0, hv]
              have hcsl : cs.length ≤ 64 := hc3
              have hlen0 : cs.length = (c.toCells ti).length := by
                have key : ∀ (cs : List CK) (c0 : Nat) (ss : List SV) z, cellArgs E st i p c0 cs ss = some z → cs.length = ss.length := by
                  intro cs
                  induction cs with
                  | nil => intro c0 ss z h; cases ss with
                    | nil => rfl
                    | cons _ _ => cases h
                  | cons k cs ihc =>
                    intro c0 ss z h
                    cases ss with
                    | nil => cases k <;> cases h
                    | cons s ss =>
                      cases k with
                      | val q =>
                        obtain ⟨_, _, h⟩ := opt_some.1 h
                        obtain ⟨x, hx, _⟩ := opt_some.1 h
                        simp [ihc _ _ _ hx]
                      | row e =>
                        simp only [cellArgs] at h
                        split at h
                        · split at h
                          · replace h := (cond_some.1 h).2
                            obtain ⟨x, hx, _⟩ := opt_some.1 h
                            simp [ihc _ _ _ hx]
                          · cases h
                        · split at h
                          · replace h := (cond_some.1 h).2
                            obtain ⟨x, hx, _⟩ := opt_some.1 h
                            simp [ihc _ _ _ hx]
                          · cases h
                        · cases h
                      | self =>
                        simp only [cellArgs] at h
                        split at h
                        · replace h := (cond_some.1 h).2
                          obtain ⟨x, hx, _⟩ := opt_some.1 h
                          simp [ihc _ _ _ hx]
                        · cases h
                exact key cs 0 _ _ hy
              obtain ⟨d1, d2, d3⟩ := cellArgs_ok (ιn := ιc w vs) H (hιp.trans hι.symm) cs 0 _ y.1 y.2 cc.toList hy (by rw [Array.length_toList, b1, b2]) (fun j s u hs hu => b3 j s u hs (by simpa using hu)) (fun j u hu => by
                rw [Nat.zero_add]
                have hju : cc[j]? = some u := by simpa using hu
                have hjl : j < cc.size := (Array.getElem?_eq_some_iff.1 hju).1
                exact ιc_row hv0' (by omega) (by rw [hcell]; exact hju))
              have hcd : ∀ j d0, y.1[j]? = some d0 → (D.agg y.1).cell j = d0 := fun j d0 h => by
                show y.1.getD j .no = d0
                rw [List.getD_eq_getElem?_getD, h]; rfl
              -- the cells of the box, cell by cell
              have hcellok : ∀ (j : Nat) k, cs[j]? = some k → ∃ s u d0, (c.toCells ti)[j]? = some s ∧ cc[j]? = some u ∧ (D.agg y.1).cell j = d0 ∧ CellOK E st ι (ιc w vs) M w y.2 p j u d0 k := by
                intro j k hk
                have hjl := (List.getElem?_eq_some_iff.1 hk).1
                have h1 : (c.toCells ti)[j]? = some ((c.toCells ti)[j]'(by omega)) := List.getElem?_eq_getElem (by omega)
                have h2 : cc[j]? = some (cc[j]'(by omega)) := Array.getElem?_eq_getElem (by omega)
                have h3 : y.1[j]? = some (y.1[j]'(by omega)) := List.getElem?_eq_getElem (by omega)
                have := d3 j k _ _ _ hk h1 (by rw [Array.getElem?_toList]; exact h2) h3
                rw [Nat.zero_add] at this
                exact ⟨_, _, _, h1, h2, hcd j _ h3, this⟩
              let d : D := .agg y.1
              let bid' : Nat → Nat := fun q => if q = p then i else bid q
              have hbid : ∀ q, p + 1 ≤ q → bid q = bid' q := fun q hq => by simp only [bid']; rw [if_neg (by omega)]
              have hbidp : bid' p = i := by simp [bid']
              have hpar : paramSt (.box u' cs :: ps) p (.agg y.1 :: r.1) = some ((p, .bptr p u' 0 (.agg u')) :: sl, (p, .box u' (.cells (mkCells p cs 0 d))) :: (rowObjs p cs 0 d ++ os)) := by
                simp only [paramSt, q1, opt]; rfl
              have hlk : ∀ j o, lk j ((p, Obj.box u' (.cells (mkCells p cs 0 d))) :: (rowObjs p cs 0 d ++ os)) = some o → (j = p ∧ o = .box u' (.cells (mkCells p cs 0 d))) ∨ (∃ c0 e, cs[c0]? = some (.row e) ∧ j = rowId p c0 ∧ o = .arr e (d.cell c0).toList) ∨ lk j os = some o := by
                intro j o h
                simp only [lk] at h
                cases hb : Nat.beq j p with
                | true => rw [hb] at h; injection h with h; exact .inl ⟨beq_iff.1 hb, h.symm⟩
                | false =>
                  rw [hb] at h
                  simp only [cond_false, lk_app] at h
                  cases hr2 : lk j (rowObjs p cs 0 d) with
                  | some o' =>
                    rw [hr2] at h; injection h with h; subst h
                    obtain ⟨c0, e, g1, g2, g3⟩ := rowObjs_lk p cs 0 d j o' hr2
                    rw [Nat.zero_add] at g2 g3
                    exact .inr (.inl ⟨c0, e, g1, g2, g3⟩)
                  | none => rw [hr2] at h; exact .inr (.inr h)
              have hin : ∀ j o, lk j os = some o → ∃ o', lk j ((p, Obj.box u' (.cells (mkCells p cs 0 d))) :: (rowObjs p cs 0 d ++ os)) = some o' := by
                intro j o h
                simp only [lk]
                cases hb : Nat.beq j p with
                | true => exact ⟨_, rfl⟩
                | false =>
                  simp only [cond_false, lk_app]
                  cases lk j (rowObjs p cs 0 d) with
                  | some o' => exact ⟨_, rfl⟩
                  | none => exact ⟨o, h⟩
              have hself : ∃ o', lk p ((p, Obj.box u' (.cells (mkCells p cs 0 d))) :: (rowObjs p cs 0 d ++ os)) = some o' := ⟨.box u' (.cells (mkCells p cs 0 d)), by simp only [lk, beq_self, cond_true]⟩
              have hrowin : ∀ c0 e, cs[c0]? = some (.row e) → ∃ o', lk (rowId p c0) ((p, Obj.box u' (.cells (mkCells p cs 0 d))) :: (rowObjs p cs 0 d ++ os)) = some o' := by
                intro c0 e hce
                obtain ⟨o', ho'⟩ := rowObjs_there p cs 0 d c0 e hce
                rw [Nat.zero_add] at ho'
                simp only [lk]
                cases hb : Nat.beq (rowId p c0) p with
                | true => exact ⟨_, rfl⟩
                | false => exact ⟨o', by simp only [cond_false, lk_app, ho']⟩
              refine ⟨by simp [hl], _, _, bid', hpar, ?_, ?_, ?_, ?_, ?_⟩
              · intro t s1 ht
                simp only [lk] at ht
                cases hb : Nat.beq t p with
                | true =>
                  rw [hb] at ht; injection ht with ht; subst ht
                  have := beq_iff.1 hb; subst this
                  refine ⟨⟨_, hv0', ?_⟩, fun i hi => ?_⟩
                  · refine ⟨?_, b, hιp, rfl⟩
                    rw [← hc5]; exact hka
                  · simp [refsOf, refs0] at hi; subst hi; exact hself
                | false =>
                  rw [hb] at ht
                  obtain ⟨r1, r2⟩ := q2 t s1 ht
                  exact ⟨r1, fun i hi => by obtain ⟨o, ho⟩ := r2 i hi; exact hin i o ho⟩
              · intro j o ho k hk
                rcases hlk j o ho with ⟨rfl, rfl⟩ | ⟨c0, e, _, _, rfl⟩ | ho
                · rcases mkCells_refs hk with rfl | ⟨c0, e, g1, rfl⟩
                  · exact hself
                  · rw [Nat.zero_add]; exact hrowin c0 e g1
                · cases hk
                · obtain ⟨o', ho'⟩ := q3 j o ho k hk
                  exact hin k o' ho'
              · intro id o ho
                rcases hlk id o ho with ⟨rfl, rfl⟩ | ⟨c0, e, g1, rfl, rfl⟩ | ho
                · refine ⟨⟨ti, b, cc, hti, hιp, hheap, b1, by rw [mkCells_length, hlen0, b2], fun j s1 u hs1 hu => ?_⟩, .inr (.inr ⟨0, u', cs, rfl, rfl, by rw [Nat.add_zero, hbidp, hιp, hι]⟩)⟩
                  rw [mkCells_get, Option.map_eq_some_iff] at hs1
                  obtain ⟨k', hk', rfl⟩ := hs1
                  obtain ⟨s2, u2, d0, e1, e2, e3, e4⟩ := hcellok j k' hk'
                  rw [hu] at e2; injection e2 with e2; subst e2
                  rw [Nat.zero_add]
                  cases k' with
                  | val q =>
                    have e4 : Rep E.tt M q u d0 := e4
                    show Rep E.tt M q u (canon q (d.cell j))
                    rw [show d.cell j = d0 from e3, e4.canon]; exact e4
                  | row e' =>
                    obtain ⟨_, _, hsl, e5⟩ := e4
                    exact ⟨e5.symm, by rw [e5]; exact hsl⟩
                  | self => exact e4
                · obtain ⟨s2, u2, d0, e1, e2, e3, e4⟩ := hcellok c0 _ g1
                  obtain ⟨f1, f2, _⟩ := e4
                  rw [show d.cell c0 = d0 from e3]
                  refine ⟨f1, ?_⟩
                  rcases f2 with f2 | ⟨j, f2, f3⟩
                  · exact .inl f2
                  · exact .inr (.inl ⟨j, List.mem_append_left _ f2, f3⟩)
                · obtain ⟨r1, r2⟩ := q4 id o ho
                  refine ⟨r1, ?_⟩
                  rcases r2 with r2 | ⟨j, r2, r3⟩ | ⟨q, t, cs2, r3, r4, r5⟩
                  · exact .inl r2
                  · exact .inr (.inl ⟨j, List.mem_append_right _ r2, r3⟩)
                  · exact .inr (.inr ⟨q + 1, t, cs2, up r3, by omega, by rw [r5, hbid _ (by omega)]; congr 2; omega⟩)
              · simp only [boxesP, hbidp]
                rw [q5, boxesP_congr ps (p + 1) hbid]
              · intro q t cs2 hq
                cases q with
                | zero =>
                  rw [Nat.add_zero, hbidp]
                  exact ⟨⟨_, hob⟩, by rw [hv0', hι]⟩
                | succ q =>
                  have := q6 q t cs2 (by simpa using hq)
                  rw [show p + (q + 1) = p + 1 + q by omega, ← hbid _ (by omega)]; exact this
        | _ => cases h
end
end Go.Proofs.YtjofkhdnidjleabDoor.DS
