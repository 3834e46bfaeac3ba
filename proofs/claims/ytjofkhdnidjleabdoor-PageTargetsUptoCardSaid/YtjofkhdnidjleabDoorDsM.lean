/- Stores. -/
import Derived.Test.YtjofkhdnidjleabDoorDsL
set_option linter.unusedVariables false
set_option linter.unusedSimpArgs false
namespace Go.Proofs.YtjofkhdnidjleabDoor.DS
open Go.RowKit

theorem put_self {α : Type} (f : Nat → α) (t : Nat) : put f t (f t) = f := by
  funext u
  by_cases h : u = t
  · subst h; rw [put_same]
  · rw [put_other _ _ _ h]

theorem run_storeCells_fr (P : Program) (g o : Nat) (t : TypeId) (fz : Nat × Nat) : ∀ (vs : List Value) (i : Nat) (cur : Array Value) (w : World), w.heap[g]? = some (.cells cur t fz) → (cur.size ≤ fz.1 ∨ fz.2 ≤ fz.1) → o + i + vs.length ≤ cur.size → (∀ v ∈ vs, v.oneCell' = true) →
    (storeCells ⟨g, o, none⟩ vs i).run P w = .ok () (w.setRow g (cur.toList.take (o + i) ++ vs ++ cur.toList.drop (o + i + vs.length)).toArray)
  | [], i, cur, w, hg, _, _, _ => by
    simp only [storeCells, List.append_nil, List.length_nil, Nat.add_zero, List.take_append_drop, Array.toArray_toList]
    rw [setRow_self w g cur t fz hg]
    rfl
  | v :: rest, i, cur, w, hg, hfz, hl, h1 => by
    have hi : o + i < cur.size := by simp at hl; omega
    have hadd : (⟨g, o, none⟩ : Addr).add i = ⟨g, o + i, none⟩ := by rw [add_spot _ rfl]
    have hcell : w.cell? ⟨g, o + i, none⟩ = some cur[o + i] := by simp [World.cell?, hg, hi]
    have hfro : w.frozen? ⟨g, o + i, none⟩ = false := by
      obtain ⟨lo, hi'⟩ := fz
      simp only [World.frozen?, hg, Bool.and_eq_false_iff, decide_eq_false_iff_not]
      simp only at hfz
      omega
    have hst : (store ((⟨g, o, none⟩ : Addr).add i) v).run P w = .ok () (w.setRow g (cur.setIfInBounds (o + i) v)) := by
      rw [hadd, run_store P w _ v _ (h1 v (by simp)), hcell]
      simp [hfro, setCell_eq_setRow w g (o + i) cur t fz v hg]
    have ih := run_storeCells_fr P g o t fz rest (i + 1) (cur.setIfInBounds (o + i) v) (w.setRow g (cur.setIfInBounds (o + i) v)) (setRow_heap w g cur _ t _ hg) (by simpa using hfz) (by simp at hl ⊢; omega) (fun x hx => h1 x (by simp [hx]))
    simp only [storeCells, Sem.run_bind, hst, Result.andThen_ok, ih, setRow_setRow]
    congr 3
    have e := list_seg_step cur.toList (o + i) v rest (by simp at hl ⊢; omega)
    simpa [Array.toList_setIfInBounds, Nat.add_assoc] using e

theorem grown_setRow (w : World) (g : Nat) (cs : Array Value) : w.grownBy (w.setRow g cs) (some g) :=
  ⟨rfl, rfl, rfl, by simp [World.setRow], fun k _ hk => setRow_other w g k cs (fun e => hk (by rw [e]))⟩

/-- A stretch of a list replaced. -/
theorem seg_get {α : Type} (l vs : List α) (o k : Nat) (h : o + vs.length ≤ l.length) : (l.take o ++ vs ++ l.drop (o + vs.length))[k]? = if o ≤ k ∧ k < o + vs.length then vs[k - o]? else l[k]? := by
  have h1 : (l.take o).length = o := by simp; omega
  rw [List.append_assoc]
  by_cases hk : k < o
  · rw [if_neg (by omega), List.getElem?_append_left (by omega), List.getElem?_take, if_pos hk]
  · rw [List.getElem?_append_right (by omega), h1]
    by_cases hk2 : k < o + vs.length
    · rw [if_pos ⟨by omega, hk2⟩, List.getElem?_append_left (by omega)]
    · rw [if_neg (by omega), List.getElem?_append_right (by omega), List.getElem?_drop]
      congr 1; omega

/-- Cells of a box replaced. -/
theorem seg_rel {tt : TT} {ι : Nat → Value} {M : Mem} {ti : TI} {cs : Array Value} {l : List SV} (h : BCRel tt ι M ti cs (.cells l)) {off : Nat} {ss : List SV} {vs : List Value} (hl : ss.length = vs.length) (ho : off + vs.length ≤ cs.size)
    (hr : ∀ (i : Nat) (s : SV) (c : Value), ss[i]? = some s → vs[i]? = some c → SVRel0 tt ι M s c) : BCRel tt ι M ti (cs.toList.take off ++ vs ++ cs.toList.drop (off + vs.length)).toArray (.cells (setSVs l off ss)) := by
  obtain ⟨h1, h2, h3⟩ := h
  refine ⟨?_, by rw [setSVs_length]; exact h2, ?_⟩
  · simp; omega
  · intro i s c hs hc
    rw [setSVs_get _ _ _ _ (by omega)] at hs
    rw [List.getElem?_toArray, seg_get _ _ _ _ (by rw [Array.length_toList]; exact ho)] at hc
    rw [hl] at hs
    by_cases hi : off ≤ i ∧ i < off + vs.length
    · rw [if_pos hi] at hs hc; exact hr _ s c hs hc
    · rw [if_neg hi] at hs hc; rw [Array.getElem?_toList] at hc; exact h3 i s c hs hc

theorem Rep.cells_one {P : Program} {tt : TT} (hT : TTok P tt) {M : Mem} {t : TypeId} {ti : TI} (ht : lk t tt = some ti) {v : Value} {d : D} (h : Rep tt M ti.kt v d) : ∀ c ∈ v.cells.toList, c.oneCell' = true := by
  obtain ⟨h1, h2, h3⟩ := h.kt_cells hT ht
  intro c hc
  obtain ⟨i, hi, rfl⟩ := List.mem_iff_getElem.1 hc
  rw [Array.length_toList] at hi
  have hr := h3 i (by omega) hi (by omega)
  rw [Array.getElem_toList]
  exact (hr.cells_single ((hT t ti ht).single _ (List.getElem_mem _))).2.2

theorem SVRel0.one {tt : TT} {ι : Nat → Value} {M : Mem} {s : SV} {v : Value} {k : KT} (hk : k.single = true) (h : SVRel0 tt ι M s v) (hs : (∃ d, s = .val k d) ∨ s = .nil ∨ (∃ id, s = .own id)) : v.oneCell' = true ∧ v.cells = #[v] := by
  rcases hs with ⟨d, rfl⟩ | rfl | ⟨id, rfl⟩
  · have h' : Rep tt M k v d := h
    exact ⟨(h'.cells_single hk).2.2, (h'.cells_single hk).1⟩
  · have h' : v = .slice none 0 0 := h
    rw [h']; exact ⟨rfl, rfl⟩
  · obtain ⟨h', a, n, c, hι⟩ := h
    rw [h', hι]; exact ⟨rfl, rfl⟩

section
variable {P : Program} {E : Env} (hT : TTok P E.tt) {draw : Bool} {st : St} {ops : List Oper} {L : List (Nat × Bool)} {a : Act} {w w0 : World} {X : Nat → Prop} {Mx : Mem} {ι : Nat → Value} {M : Mem}
  (hev : ∀ x s, ev st ops L x = some s → SVRel E.tt ι M s (a.eval x))
  (H : HRel E.tt X w0 Mx ι M st.objs w) (hwf : WF st)

include H hwf in
/-- An object's content replaced, in its own block. -/
theorem write_step {id : Nat} {ob ob' : Obj} (hob : st.objs id = some ob) {b : Nat} (hb : blockOf (ι id) = some b) {cs : Array Value} (hnew : ObjRel E.tt ι M (w.setRow b cs) id ob')
    (hrefs : ∀ i, i ∈ objRefs0 ob' → ∃ o, st.objs i = some o) : Steps1 E.tt X w0 Mx ι M st { st with objs := put st.objs id (some ob') } (w.setRow b cs) .gone undef := by
  have hin : ∀ i o, st.objs i = some o → ∃ o, put st.objs id (some ob') i = some o := by
    intro i o ho
    by_cases hi : i = id
    · subst hi; exact ⟨ob', put_same _ _ _⟩
    · exact ⟨o, by rw [put_other _ _ _ hi]; exact ho⟩
  refine ⟨ι, ?_, fun t s1 hs1 => ⟨s1, hs1, fun v0 h => h⟩, trivial, rfl, ⟨?_, ?_⟩, fun i hi => by cases hi⟩
  · have := H.change (grown_setRow w b cs) (id := id) (x := ι id) (fun b' hb' => ⟨⟨ob, hob⟩, by injection hb' with hb'; rw [← hb']; exact hb⟩) (fun b' hb' => .inl ⟨⟨ob, hob⟩, hb'⟩) (objs' := put st.objs id (some ob')) ?_ ?_
    · rwa [put_self] at this
    · intro i o' hi ho'
      rw [put_other _ _ _ hi] at ho'
      exact ⟨o', ho', fun hr hh => by rw [put_self]; exact hr.same hh⟩
    · intro o' ho'
      rw [put_same] at ho'
      injection ho' with ho'; subst ho'
      rw [put_self]; exact hnew
  · intro t s1 hs1 i hi
    obtain ⟨o, ho⟩ := hwf.slots t s1 hs1 i hi
    exact hin i o ho
  · intro j o hj i hi
    by_cases hji : j = id
    · subst hji
      simp only [put_same, Option.some.injEq] at hj
      subst hj
      obtain ⟨o2, ho2⟩ := hrefs i hi
      exact hin i o2 ho2
    · simp only [put_other _ _ _ hji] at hj
      obtain ⟨o2, ho2⟩ := hwf.cells j o hj i hi
      exact hin i o2 ho2

theorem SVRel0.known {tt : TT} {ι : Nat → Value} {M : Mem} {s : SV} {v : Value} (hk : knownC s = true) (h : SVRel0 tt ι M s v) : v.oneCell' = true := by
  cases s with
  | val k d =>
    have h' : Rep tt M k v d := h
    exact (h'.cells_single (by cases k <;> first | rfl | cases hk)).2.2
  | nil =>
    have h' : v = .slice none 0 0 := h
    rw [h']; rfl
  | own i =>
    obtain ⟨h', a, n, c, hι⟩ := h
    rw [h', hι]; rfl
  | selfn i =>
    rcases h with h' | ⟨b, _, h'⟩ <;> rw [h'] <;> rfl
  | _ => cases hk
theorem allKnown_mem {l : List SV} (h : allKnown l = true) : ∀ s ∈ l, knownC s = true := by
  induction l with
  | nil => intro s hs; cases hs
  | cons x r ih =>
    intro s hs
    simp only [allKnown] at h
    cases hx : knownC x with
    | false => rw [hx] at h; cases h
    | true =>
      rw [hx] at h
      rcases List.mem_cons.1 hs with rfl | hs
      · exact hx
      · exact ih h s hs

theorem boxStore_cases {tt : TT} {t : TypeId} {ti : TI} {c c' : BC} {off : Nat} {k : KT} {s : SV} (h : boxStore tt t ti c off k s = some c') :
    (∃ q d, k = .agg q ∧ svD k s = some d ∧ ((off = 0 ∧ q = t ∧ c' = .whole d) ∨ ∃ tu, lk q tt = some tu ∧ c' = .cells (setSVs (c.toCells ti) off (expand tu.cells d 0)))) ∨
    (k.single = true ∧ c' = .cells ((c.toCells ti).set off s) ∧ ((∃ d, s = .val k d) ∨ s = .nil ∨ ∃ id, s = .own id)) ∨
    (∃ q ks l, k = .agg q ∧ s = .sag q ks l ∧ allKnown l = true ∧ c' = .cells (setSVs (c.toCells ti) off l)) := by
  cases k with
  | agg q =>
    by_cases hsag : ∃ u ks l, s = .sag u ks l
    · obtain ⟨u, ks, l, rfl⟩ := hsag
      right; right
      simp only [boxStore] at h
      replace h := cond_some.1 h
      obtain ⟨hc, h⟩ := h
      injection h with h
      simp only [Bool.and_eq_true] at hc
      have hc1 := beq_iff.1 hc.1
      subst hc1
      exact ⟨q, ks, l, rfl, rfl, hc.2, h.symm⟩
    left
    have h : (match svD (.agg q) s with
      | some d => cond (Nat.beq off 0 && Nat.beq q t) (some (BC.whole d)) (match lk q tt with
        | some tu => some (.cells (setSVs (c.toCells ti) off (expand tu.cells d 0)))
        | none => none)
      | none => none) = some c' := by
      cases s with
      | sag u ks l => exact absurd ⟨u, ks, l, rfl⟩ hsag
      | _ => exact h
    cases hd : svD (.agg q) s with
    | none => rw [hd] at h; cases h
    | some d =>
      rw [hd] at h
      simp only at h
      refine ⟨q, d, rfl, rfl, ?_⟩
      cases hc : (Nat.beq off 0 && Nat.beq q t) with
      | true =>
        rw [hc] at h
        injection h with h
        simp only [Bool.and_eq_true] at hc
        exact .inl ⟨beq_iff.1 hc.1, beq_iff.1 hc.2, h.symm⟩
      | false =>
        rw [hc] at h
        simp only [cond_false] at h
        cases hu : lk q tt with
        | none => rw [hu] at h; cases h
        | some tu =>
          rw [hu] at h
          injection h with h
          exact .inr ⟨tu, rfl, h.symm⟩
  | bool | int _ | str | ptr =>
    all_goals
      right; left
      refine ⟨rfl, ?_⟩
      cases s with
      | val k' d =>
        simp only [boxStore] at h
        replace h := cond_some.1 h
        obtain ⟨he, h⟩ := h
        have he := KT.eq_iff.1 he
        subst he
        injection h with h
        exact ⟨h.symm, .inl ⟨d, rfl⟩⟩
      | _ => simp [boxStore] at h
  | slice e =>
    right; left
    refine ⟨rfl, ?_⟩
    cases s with
    | val k' d =>
      simp only [boxStore] at h
      replace h := cond_some.1 h
      obtain ⟨he, h⟩ := h
      have he := KT.eq_iff.1 he
      subst he
      injection h with h
      exact ⟨h.symm, .inl ⟨d, rfl⟩⟩
    | nil => simp only [boxStore] at h; injection h with h; exact ⟨h.symm, .inr (.inl rfl)⟩
    | own id => simp only [boxStore] at h; injection h with h; exact ⟨h.symm, .inr (.inr ⟨id, rfl⟩)⟩
    | _ => simp [boxStore] at h

include hT hev H hwf in
theorem store_sound {o : Oper} {t : TypeId} {x y : Operand} (ho : o.op = .store t x y) {c : Bool} {id : Nat} {ob : Obj} {scr : Bool} {v : SV} (h : storeO E st ops L t x y = some (.ob c id ob scr v)) : Does P E.tt X w0 Mx ι M a w o st (obSt st id ob scr) v := by
  unfold storeO at h
  replace h := opt_some.1 h
  obtain ⟨ti, ht, h⟩ := h
  replace h := opt_some.1 h
  obtain ⟨s1, hs1, h⟩ := h
  replace h := opt_some.1 h
  obtain ⟨sv, hsv, h⟩ := h
  have hr1 := hev x s1 hs1
  have hr2 := hev y sv hsv
  obtain ⟨inf, hinf, hsz, _⟩ := (hT t ti ht).info
  have hexec : execOp a.eval o = (do Instr.storeAt t (a.eval x) (a.eval y); pure .skip) := by simp [execOp, ho]
  have hrun : ∀ (b off : Nat) (cs : Array Value) (tb : TypeId) (fr : Nat × Nat), a.eval x = .pointer (some ⟨b, off, none⟩) → (a.eval y).cells.size = ti.cells.length → w.heap[b]? = some (.cells cs tb fr) → (cs.size ≤ fr.1 ∨ fr.2 ≤ fr.1) → off + ti.cells.length ≤ cs.size →
      (∀ c ∈ (a.eval y).cells.toList, c.oneCell' = true) → (execOp a.eval o).run P w = .ok .skip (w.setRow b (cs.toList.take off ++ (a.eval y).cells.toList ++ cs.toList.drop (off + (a.eval y).cells.toList.length)).toArray) := by
    intro b off cs tb fr hx hys hheap hfr hle hone
    have hst := run_storeCells_fr P b off tb fr (a.eval y).cells.toList 0 cs w hheap hfr (by rw [Array.length_toList]; omega) hone
    rw [hexec, hx]
    simp only [Instr.storeAt, Instr.sureAddr, pure_bind, storeVar, Sem.run_bind, run_size hinf, Result.andThen_ok, hsz, hys]
    rw [if_neg (by simp)]
    simp only [Sem.run_pure, Result.andThen_ok, Nat.add_zero] at hst ⊢
    rw [hst]; rfl
  split at h
  · rename_i id u' off k
    replace h := cond_some.1 h
    obtain ⟨hk, h⟩ := h
    have hk := KT.eq_iff.1 hk
    obtain ⟨hka, b, hι, hv⟩ := hr1
    cases hob : st.objs id with
    | none => rw [hob] at h; cases h
    | some ob =>
      rw [hob] at h
      have hor := H.obj id ob hob
      cases ob with
      | arr e es => cases h
      | box u bc =>
        replace h := cond_some.1 h
        obtain ⟨hu, h⟩ := h
        have hu := beq_iff.1 hu
        subst hu
        replace h := opt_some.1 h
        obtain ⟨ui, hui, h⟩ := h
        replace h := opt_some.1 h
        obtain ⟨c', hc', h⟩ := h
        injection h with h; injection h with h1 h2 h3 h4 h5; subst h1 h2 h3 h4 h5
        obtain ⟨ui', b', cs, hui', hι', hheap, hbc⟩ := hor
        rw [hui] at hui'; cases hui'
        rw [hι] at hι'; injection hι' with hι'; injection hι' with hι'; injection hι' with hb; subst hb
        obtain ⟨ui2, t', ti', hu2, ht', hk3, hcc, hll⟩ := hka
        rw [hui] at hu2; cases hu2
        have hcs := (toCells_rel hT hui hbc).1
        have hlen : ti'.cells.length = ti.cells.length := by
          cases hkk : k with
          | agg q =>
            have e1 := (hT _ _ ht').agg_self (hk3.trans hkk)
            have e2 := (hT _ _ ht).agg_self (hk.symm.trans hkk)
            subst e1; rw [e2] at ht'; rw [ht] at ht'; cases ht'; rfl
          | _ =>
            rw [(hT _ _ ht').cells_of_single (by rw [hk3, hkk]; rfl), (hT _ _ ht).cells_of_single (by rw [← hk, hkk]; rfl)]; rfl
        -- what is stored: cells that hold slots' values
        have hgen : ∀ (ss : List SV), (a.eval y).cells.size = ti.cells.length → (∀ c ∈ (a.eval y).cells.toList, c.oneCell' = true) → ss.length = (a.eval y).cells.toList.length →
            (∀ (i : Nat) (s : SV) (c : Value), ss[i]? = some s → (a.eval y).cells.toList[i]? = some c → SVRel0 E.tt ι M s c) → (∀ i, i ∈ refsL ss → ∃ o, st.objs i = some o) →
            ∀ c'', (c'' = .cells (setSVs (bc.toCells ui) off ss) ∨ (∃ d, c'' = .whole d ∧ off = 0 ∧ (∃ q, ui.kt = .agg q) ∧ Rep E.tt M ui.kt (.agg (a.eval y).cells) d)) →
            Does P E.tt X w0 Mx ι M a w o st { st with objs := put st.objs id (some (.box u c'')) } .gone := by
          intro ss hys hone hsl hsr href c'' hc''
          have hrow := hrun b off cs u (0, 0) hv hys hheap (.inr (Nat.le_refl _)) (by omega) hone
          refine ⟨undef, _, .inr ⟨hrow, rfl⟩, ?_⟩
          refine write_step H hwf hob (by rw [hι]; rfl) ?_ ?_
          · rcases hc'' with rfl | ⟨d, rfl, h0, hag, hrep⟩
            · exact ⟨ui, b, _, hui, hι, setRow_heap w b cs _ u _ hheap, seg_rel (toCells_rel hT hui hbc) hsl (by rw [Array.length_toList]; omega) hsr⟩
            · refine ⟨ui, b, _, hui, hι, setRow_heap w b cs _ u _ hheap, hag, ?_⟩
              subst h0
              have e : (cs.toList.take 0 ++ (a.eval y).cells.toList ++ cs.toList.drop (0 + (a.eval y).cells.toList.length)).toArray = (a.eval y).cells := by
                have : cs.toList.drop (0 + (a.eval y).cells.toList.length) = [] := by
                  apply List.drop_eq_nil_of_le
                  have := (hrep.kt_cells hT hui).1
                  change (a.eval y).cells.size = _ at this
                  rw [Array.length_toList, Array.length_toList]; omega
                rw [this]; simp
              rw [e]; exact hrep
          · rcases hc'' with rfl | ⟨d, rfl, _⟩
            · intro i hi0
              simp only [objRefs0] at hi0
              obtain ⟨s, hs, hi⟩ := mem_refsL.1 hi0
              clear hi0
              obtain ⟨j, hj⟩ := List.getElem?_of_mem hs
              rw [setSVs_get _ _ _ _ (by rw [(toCells_rel hT hui hbc).2.1, hsl, Array.length_toList]; omega)] at hj
              split at hj
              · exact href i (mem_refsL.2 ⟨s, List.mem_of_getElem? hj, hi⟩)
              · cases bc with
                | whole d =>
                  simp only [BC.toCells] at hj
                  rw [expand_get, Option.map_eq_some_iff] at hj
                  obtain ⟨k', _, rfl⟩ := hj
                  simp [refs0] at hi
                | cells l => exact hwf.cells id _ hob i (mem_refsL.2 ⟨s, List.mem_of_getElem? hj, hi⟩)
            · intro i hi; simp [objRefs0] at hi
        have hset : ∀ (l : List SV) (s : SV), l.set off s = setSVs l off [s] := fun l s => rfl
        have hsingle : ∀ s', k.single = true → SVRel0 E.tt ι M s' (a.eval y) → (a.eval y).oneCell' = true ∧ (a.eval y).cells = #[a.eval y] → (∀ i, i ∈ refs0 s' → ∃ o, st.objs i = some o) →
            Does P E.tt X w0 Mx ι M a w o st { st with objs := put st.objs id (some (.box u (.cells ((bc.toCells ui).set off s')))) } .gone := by
          intro s' hks hsr ⟨h1, h2⟩ href
          have hl1 : ti.cells.length = 1 := by rw [(hT _ _ ht).cells_of_single (by rw [← hk]; exact hks)]; rfl
          refine hgen [s'] (by rw [h2, hl1]; rfl) (by rw [h2]; simpa using h1) (by rw [h2]; rfl) ?_ ?_ _ (.inl (by rw [hset]))
          · intro i s c hs hc
            rw [h2] at hc
            cases i with
            | zero => simp at hs hc; subst hs hc; exact hsr
            | succ i => simp at hs
          · intro i hi; simp only [refsL, List.append_nil] at hi; exact href i hi
        rcases boxStore_cases hc' with ⟨q, d, hkq, hd, hcase⟩ | ⟨hks, rfl, hcase⟩ | ⟨q, ks, l, hkq, rfl, hkn, rfl⟩
        · have hrep := svD_rel hd hr2
          have hrt : Rep E.tt M ti.kt (a.eval y) d := by rw [← hk]; exact hrep
          have hys := (hrt.kt_cells hT ht).1
          have hone := hrt.cells_one hT ht
          have htq : q = t := (hT _ _ ht).agg_self (hk.symm.trans hkq)
          have hvagg : ∃ cc, a.eval y = .agg cc := by rw [hkq] at hrep; obtain ⟨_, cs, hv, _⟩ := hrep.inv_agg; exact ⟨_, hv⟩
          have hnoref : ∀ ks : List KT, ∀ i, i ∈ refsL (expand ks d 0) → ∃ o, st.objs i = some o := by
            intro ks i hi0
            obtain ⟨s, hs, hi⟩ := mem_refsL.1 hi0
            clear hi0
            obtain ⟨j, hj⟩ := List.getElem?_of_mem hs
            rw [expand_get, Option.map_eq_some_iff] at hj
            obtain ⟨k', _, rfl⟩ := hj
            simp [refs0] at hi
          rcases hcase with ⟨h0, hq, rfl⟩ | ⟨tu, htu, rfl⟩
          · have hui2 : ui = ti := by rw [← hq, htq, ht] at hui; injection hui with hui; exact hui.symm
            subst hui2
            refine hgen (expand ui.cells d 0) hys hone (by rw [expand_length, Array.length_toList]; omega) (fun i s c hs hc => expand_rel hT hui hrt i s c hs (by rw [← Array.getElem?_toList]; exact hc)) (hnoref _) _ (.inr ⟨d, rfl, h0, ⟨q, hk.symm.trans hkq⟩, ?_⟩)
            obtain ⟨cc, hcc3⟩ := hvagg
            rw [hcc3] at hrt ⊢; exact hrt
          · rw [htq, ht] at htu; cases htu
            exact hgen (expand ti.cells d 0) hys hone (by rw [expand_length, Array.length_toList]; omega) (fun i s c hs hc => expand_rel hT ht hrt i s c hs (by rw [← Array.getElem?_toList]; exact hc)) (hnoref _) _ (.inl rfl)
        · have h0 : SVRel0 E.tt ι M sv (a.eval y) := by rcases hcase with ⟨d, rfl⟩ | rfl | ⟨id', rfl⟩ <;> exact hr2
          refine hsingle sv hks h0 (SVRel0.one hks h0 hcase) (fun i hi => ?_)
          rcases hcase with ⟨d, rfl⟩ | rfl | ⟨id', rfl⟩
          · simp [refs0] at hi
          · simp [refs0] at hi
          · cases y with
            | tmp ty =>
              simp only [ev] at hsv
              replace hsv := cond_some.1 hsv
              exact hwf.slots ty _ hsv.2 i hi
            | const v =>
              simp only [ev] at hsv
              unfold constSV at hsv
              split at hsv
              · cases hsv
              · have := (cond_some.1 hsv).2; cases this
              · have := (cond_some.1 hsv).2; cases this
              · cases hsv
              · cases hsv
              · cases hsv
            | _ => simp [ev] at hsv
        · obtain ⟨ti3, vs, g1, g2, g3, g4, g5, g6, g7⟩ := hr2
          have htq : q = t := (hT _ _ ht).agg_self (hk.symm.trans hkq)
          rw [htq, ht] at g1; injection g1 with g1; subst g1
          have hyc : (a.eval y).cells = vs.toArray := by rw [g4]; rfl
          have hkl : ks.length = ti.cells.length := by rw [g3]
          refine hgen l (by rw [hyc]; simp; omega) ?_ (by rw [hyc]; simp; omega) ?_ ?_ _ (.inl rfl)
          · intro c hc
            rw [hyc] at hc
            obtain ⟨i, hi⟩ := List.getElem?_of_mem (show c ∈ vs by simpa using hc)
            have hlt : i < l.length := by have := (List.getElem?_eq_some_iff.1 hi).1; omega
            exact (g7 i l[i] c (List.getElem?_eq_getElem hlt) hi).known (allKnown_mem hkn _ (List.getElem_mem hlt))
          · intro i s c hs hc
            rw [hyc] at hc
            exact g7 i s c hs (by simpa using hc)
          · intro i hi
            cases y with
            | tmp ty =>
              simp only [ev] at hsv
              replace hsv := cond_some.1 hsv
              exact hwf.slots ty _ hsv.2 i hi
            | const v =>
              simp only [ev] at hsv
              unfold constSV at hsv
              split at hsv
              · cases hsv
              · have := (cond_some.1 hsv).2; cases this
              · have := (cond_some.1 hsv).2; cases this
              · cases hsv
              · cases hsv
              · cases hsv
            | _ => simp [ev] at hsv
  · rename_i id e' i off k
    replace h := cond_some.1 h
    obtain ⟨hk, h⟩ := h
    have hk := KT.eq_iff.1 hk
    replace h := opt_some.1 h
    obtain ⟨d, hd, h⟩ := h
    have hrep := svD_rel hd hr2
    have hrt : Rep E.tt M ti.kt (a.eval y) d := by rw [← hk]; exact hrep
    have hys := (hrt.kt_cells hT ht).1
    have hone := hrt.cells_one hT ht
    obtain ⟨hka, b, n, cap, ei, hei, hι, hi0, hin, hv⟩ := hr1
    cases hob : st.objs id with
    | none => rw [hob] at h; cases h
    | some ob =>
      rw [hob] at h
      have hor := H.obj id ob hob
      cases ob with
      | box u bc => cases h
      | arr e es =>
        replace h := cond_some.1 h
        obtain ⟨he, h⟩ := h
        have he := beq_iff.1 he
        subst he
        replace h := opt_some.1 h
        obtain ⟨ei', hei', h⟩ := h
        rw [hei] at hei'; cases hei'
        obtain ⟨ei', hei', hpos, harr⟩ := hor
        rw [hei] at hei'; cases hei'
        rcases harr with ⟨h1, _⟩ | ⟨b', cap', cur, tt', fr, vs, h1, hheap, hlen, hcap, hcur, hfr, hall⟩
        · rw [hι] at h1; cases h1
        · rw [hι] at h1
          injection h1 with h1 h2 h3
          injection h1 with h1
          injection h1 with h1
          subst h1 h2 h3
          have hin' : i.toNat < es.length := by omega
          obtain ⟨hz, hcells, hrepE⟩ := hall i.toNat hin'
          have hget : es.getD i.toNat .no = es[i.toNat] := by simp [List.getD_eq_getElem?_getD, List.getElem?_eq_getElem hin']
          rw [hget] at h
          obtain ⟨ui2, t', ti', hu2, ht', hk3, hcc, hll⟩ := hka
          rw [hei] at hu2; cases hu2
          have htt : ti'.cells = ti.cells := by
            cases hkk : k with
            | agg q =>
              have e1 := (hT _ _ ht').agg_self (hk3.trans hkk)
              have e2 := (hT _ _ ht).agg_self (hk.symm.trans hkk)
              subst e1; rw [e2] at ht'; rw [ht] at ht'; cases ht'; rfl
            | _ =>
              rw [(hT _ _ ht').cells_of_single (by rw [hk3, hkk]; rfl), (hT _ _ ht).cells_of_single (by rw [← hk, hkk]; rfl), hk3, hk]
          rw [htt] at hcc hll
          have hle : i.toNat * ei.cells.length + off + ti.cells.length ≤ cur.size := by
            rw [hcur]
            have h1 : (i.toNat + 1) * ei.cells.length ≤ cap * ei.cells.length := Nat.mul_le_mul_right _ (by omega)
            rw [Nat.add_mul] at h1; omega
          have hyl : (a.eval y).cells.toList.length = ti.cells.length := by rw [Array.length_toList]; exact hys
          have hrow := hrun b (i.toNat * ei.cells.length + off) cur tt' fr hv hys hheap hfr hle hone
          obtain ⟨k1, k2, k3⟩ := hrepE.kt_cells hT hei
          obtain ⟨d1, d2, d3⟩ := hrt.kt_cells hT ht
          have hmain : ∀ (nd : D) (nv : Value), nv.cells.size = ei.cells.length → (∀ j u, nv.cells[j]? = some u → (if off ≤ j ∧ j < off + ti.cells.length then (a.eval y).cells[j - off]? else (vs i.toNat).cells[j]?) = some u) → Rep E.tt M ei.kt nv nd →
              Does P E.tt X w0 Mx ι M a w o st { st with objs := put st.objs id (some (.arr e (es.set i.toNat nd))) } .gone := by
            intro nd nv hnz hnc hnr
            refine ⟨undef, _, .inr ⟨hrow, rfl⟩, write_step H hwf hob (by rw [hι]; rfl) ?_ (fun i hi => by simp [objRefs0] at hi)⟩
            refine ⟨ei, hei, hpos, .inr ⟨b, cap, _, tt', fr, fun j => if j = i.toNat then nv else vs j, ?_, setRow_heap w b cur _ tt' fr hheap, ?_, hcap, ?_, ?_, ?_⟩⟩
            · rw [hι, List.length_set]
            · rw [List.length_set]; exact hlen
            · simp; omega
            · simp; omega
            · intro j hj
              rw [List.length_set] at hj
              by_cases hji : j = i.toNat
              · subst hji
                simp only [if_true]
                refine ⟨hnz, ?_, by simp only [List.getElem_set_self]; exact hnr⟩
                intro q u hu
                have hq := (Array.getElem?_eq_some_iff.1 hu).1
                have := hnc q u hu
                rw [List.getElem?_toArray, seg_get _ _ _ _ (by rw [hyl, Array.length_toList]; exact hle), hyl]
                by_cases hin2 : off ≤ q ∧ q < off + ti.cells.length
                · rw [if_pos hin2] at this
                  rw [if_pos ⟨by omega, by omega⟩, Array.getElem?_toList, ← this]
                  congr 1; omega
                · rw [if_neg hin2] at this
                  rw [if_neg (by omega), Array.getElem?_toList]
                  exact hcells q u this
              · simp only [if_neg hji]
                obtain ⟨z1, z2, z3⟩ := hall j hj
                refine ⟨z1, ?_, by simp only [List.getElem_set]; rw [if_neg (fun e => hji e.symm)]; exact z3⟩
                intro q u hu
                have hq := (Array.getElem?_eq_some_iff.1 hu).1
                have hne : ¬ (i.toNat * ei.cells.length + off ≤ j * ei.cells.length + q ∧ j * ei.cells.length + q < i.toNat * ei.cells.length + off + ti.cells.length) := by
                  rcases Nat.lt_or_gt_of_ne hji with hlt | hgt
                  · have h2 : (j + 1) * ei.cells.length ≤ i.toNat * ei.cells.length := Nat.mul_le_mul_right _ hlt
                    rw [Nat.add_mul] at h2; omega
                  · have h2 : (i.toNat + 1) * ei.cells.length ≤ j * ei.cells.length := Nat.mul_le_mul_right _ hgt
                    rw [Nat.add_mul] at h2; omega
                rw [List.getElem?_toArray, seg_get _ _ _ _ (by rw [hyl, Array.length_toList]; exact hle), hyl, if_neg hne, Array.getElem?_toList]
                exact z2 q u hu
          revert h
          cases hcond : (Nat.beq off 0 && KT.eq k ei.kt) with
          | true =>
            intro h
            injection h with h; injection h with h1 h2 h3 h4 h5; subst h1 h2 h3 h4 h5
            simp only [Bool.and_eq_true] at hcond
            have h0 := beq_iff.1 hcond.1
            have hke := KT.eq_iff.1 hcond.2
            have h5 : Rep E.tt M ei.kt (a.eval y) d := by rw [← hke]; exact hrep
            have h6 := (h5.kt_cells hT hei).1
            refine hmain d (a.eval y) h6 ?_ h5
            intro j u hu
            have hj := (Array.getElem?_eq_some_iff.1 hu).1
            rw [if_pos ⟨by omega, by omega⟩, h0]; exact hu
          | false =>
            simp only [cond_false]
            intro h
            replace h := cond_some.1 h
            obtain ⟨hag, h⟩ := h
            injection h with h; injection h with h1 h2 h3 h4 h5; subst h1 h2 h3 h4 h5
            have hagg : ∃ q, ei.kt = .agg q := by
              cases hk' : ei.kt <;> rw [hk'] at hag <;> first | exact ⟨_, rfl⟩ | simp [isAggK] at hag
            obtain ⟨q, hq⟩ := hagg
            have hqe := (hT _ _ hei).agg_self hq
            subst hqe
            have hsp : setPart es[i.toNat] off k d = .agg (setCells es[i.toNat].cells off d.cells) := by
              cases hkk : k with
              | agg q => rfl
              | _ =>
                have := (hrep.cells_single (by rw [hkk]; rfl)).2.1
                rw [this]; rfl
            rw [hsp]
            have hl8 : off + (a.eval y).cells.toList.length ≤ (vs i.toNat).cells.toList.length := by rw [hyl, Array.length_toList, k1]; exact hll
            refine hmain _ (.agg ((vs i.toNat).cells.toList.take off ++ (a.eval y).cells.toList ++ (vs i.toNat).cells.toList.drop (off + (a.eval y).cells.toList.length)).toArray) ?_ ?_ ?_
            · show (List.toArray _).size = _
              simp only [List.size_toArray, List.length_append, List.length_take, List.length_drop]
              rw [Array.length_toList] at hl8 ⊢
              omega
            · intro j u hu
              change (List.toArray _)[j]? = some u at hu
              rw [List.getElem?_toArray, seg_get _ _ _ _ hl8, hyl] at hu
              simpa using hu
            · rw [hq]
              refine .agg q ei _ _ hei hq ?_ (by rw [setCells_length]; exact k2) ?_
              · simp only [List.length_append, List.length_take, List.length_drop]
                rw [Array.length_toList] at hl8 ⊢
                omega
              · intro j h1 h2 h3
                have g1 := seg_get (vs i.toNat).cells.toList (a.eval y).cells.toList off j hl8
                have g2 := setCells_get d.cells es[i.toNat].cells off j (by omega)
                rw [List.getElem?_eq_getElem h2] at g1
                rw [List.getElem?_eq_getElem h3] at g2
                by_cases hin2 : off ≤ j ∧ j < off + ti.cells.length
                · rw [if_pos ⟨hin2.1, by rw [hyl]; exact hin2.2⟩] at g1
                  rw [if_pos ⟨hin2.1, by rw [d2]; exact hin2.2⟩] at g2
                  rw [Array.getElem?_toList, Array.getElem?_eq_getElem (by omega)] at g1
                  rw [List.getElem?_eq_getElem (by omega)] at g2
                  injection g1 with g1; injection g2 with g2
                  rw [g1, g2]
                  have h4 := congrArg (fun l => l[j - off]?) hcc
                  simp only [List.getElem?_take, List.getElem?_drop] at h4
                  rw [if_pos (by omega), show off + (j - off) = j by omega, List.getElem?_eq_getElem h1, List.getElem?_eq_getElem (by omega)] at h4
                  injection h4 with h4
                  rw [h4]
                  exact d3 (j - off) (by omega) (by omega) (by omega)
                · rw [if_neg (by rw [hyl]; exact hin2)] at g1
                  rw [if_neg (by rw [d2]; exact hin2)] at g2
                  rw [Array.getElem?_toList, Array.getElem?_eq_getElem (by omega)] at g1
                  rw [List.getElem?_eq_getElem (by omega)] at g2
                  injection g1 with g1; injection g2 with g2
                  rw [g1, g2]
                  exact k3 j h1 (by omega) (by omega)
  · cases h

end
end Go.Proofs.YtjofkhdnidjleabDoor.DS
