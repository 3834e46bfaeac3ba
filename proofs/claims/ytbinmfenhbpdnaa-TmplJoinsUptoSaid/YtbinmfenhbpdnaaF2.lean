/- The data-level semantics: plain data, an interpreter of the program over them, and its soundness; part 2. -/
import Derived.Test.YtbinmfenhbpdnaaF1
import Derived.Orders
set_option linter.unusedVariables false
set_option linter.unusedSimpArgs false
namespace Go.Proofs.Ytbinmfenhbpdnaa.DS
open Go.RowKit

theorem put_self {α : Type} (f : Nat → α) (t : Nat) : put f t (f t) = f := by
  funext u
  by_cases h : u = t
  · subst h; rw [put_same]
  · rw [put_other _ _ _ h]

theorem run_storeCells_fr (P : Program) (g o : Nat) (t : TypeId) (fz : Nat × Nat) : ∀ (vs : List Value) (i : Nat) (cur : Array Value) (w : World), w.heap[g]? = some (.cells cur t fz) → (cur.size ≤ fz.1 ∨ fz.2 ≤ fz.1) → o + i + vs.length ≤ cur.size → (∀ v ∈ vs, v.oneCell' = true) →
    (storeCells ⟨g, o, none⟩ vs i).run P w = .ok () (w.setRow g (cur.toList.take (o + i) ++ vs ++ cur.toList.drop (o + i + vs.length)).toArray)
  | [], i, cur, w, hg, _, _, _ => by
    simp only [storeCells, List.append_nil, List.length_nil, Nat.add_zero, List.take_append_drop, Array.toArray_toList]
    rw [setRow_self w g cur t fz hg]
    rfl
  | v :: rest, i, cur, w, hg, hfz, hl, h1 => by
    have hi : o + i < cur.size := by simp at hl; omega
    have hadd : (⟨g, o, none⟩ : Addr).add i = ⟨g, o + i, none⟩ := by rw [add_spot _ rfl]
    have hcell : w.cell? ⟨g, o + i, none⟩ = some cur[o + i] := by simp [World.cell?, hg, hi]
    have hfro : w.frozen? ⟨g, o + i, none⟩ = false := by
      obtain ⟨lo, hi'⟩ := fz
      simp only [World.frozen?, hg, Bool.and_eq_false_iff, decide_eq_false_iff_not]
      simp only at hfz
      omega
    have hst : (store ((⟨g, o, none⟩ : Addr).add i) v).run P w = .ok () (w.setRow g (cur.setIfInBounds (o + i) v)) := by
      rw [hadd, run_store P w _ v _ (h1 v (by simp)), hcell]
      simp [hfro, setCell_eq_setRow w g (o + i) cur t fz v hg]
    have ih := run_storeCells_fr P g o t fz rest (i + 1) (cur.setIfInBounds (o + i) v) (w.setRow g (cur.setIfInBounds (o + i) v)) (setRow_heap w g cur _ t _ hg) (by simpa using hfz) (by simp at hl ⊢; omega) (fun x hx => h1 x (by simp [hx]))
    simp only [storeCells, Sem.run_bind, hst, Result.andThen_ok, ih, setRow_setRow]
    congr 3
    have e := list_seg_step cur.toList (o + i) v rest (by simp at hl ⊢; omega)
    simpa [Array.toList_setIfInBounds, Nat.add_assoc] using e

theorem grown_setRow (w : World) (g : Nat) (cs : Array Value) : w.grownBy (w.setRow g cs) (some g) :=
  ⟨rfl, rfl, rfl, by simp [World.setRow], fun k _ hk => setRow_other w g k cs (fun e => hk (by rw [e]))⟩

/-- A stretch of a list replaced. -/
theorem seg_get {α : Type} (l vs : List α) (o k : Nat) (h : o + vs.length ≤ l.length) : (l.take o ++ vs ++ l.drop (o + vs.length))[k]? = if o ≤ k ∧ k < o + vs.length then vs[k - o]? else l[k]? := by
  have h1 : (l.take o).length = o := by simp; omega
  rw [List.append_assoc]
  by_cases hk : k < o
  · rw [if_neg (by omega), List.getElem?_append_left (by omega), List.getElem?_take, if_pos hk]
  · rw [List.getElem?_append_right (by omega), h1]
    by_cases hk2 : k < o + vs.length
    · rw [if_pos ⟨by omega, hk2⟩, List.getElem?_append_left (by omega)]
    · rw [if_neg (by omega), List.getElem?_append_right (by omega), List.getElem?_drop]
      congr 1; omega

/-- Cells of a box replaced. -/
theorem seg_rel {tt : TT} {ι : Nat → Value} {M : Mem} {ti : TI} {cs : Array Value} {l : List SV} (h : BCRel tt ι M ti cs (.cells l)) {off : Nat} {ss : List SV} {vs : List Value} (hl : ss.length = vs.length) (ho : off + vs.length ≤ cs.size)
    (hr : ∀ (i : Nat) (s : SV) (c : Value), ss[i]? = some s → vs[i]? = some c → SVRel0 tt ι M s c) : BCRel tt ι M ti (cs.toList.take off ++ vs ++ cs.toList.drop (off + vs.length)).toArray (.cells (setSVs l off ss)) := by
  obtain ⟨h1, h2, h3⟩ := h
  refine ⟨?_, by rw [setSVs_length]; exact h2, ?_⟩
  · simp; omega
  · intro i s c hs hc
    rw [setSVs_get _ _ _ _ (by omega)] at hs
    rw [List.getElem?_toArray, seg_get _ _ _ _ (by rw [Array.length_toList]; exact ho)] at hc
    rw [hl] at hs
    by_cases hi : off ≤ i ∧ i < off + vs.length
    · rw [if_pos hi] at hs hc; exact hr _ s c hs hc
    · rw [if_neg hi] at hs hc; rw [Array.getElem?_toList] at hc; exact h3 i s c hs hc

theorem Rep.cells_one {P : Program} {tt : TT} (hT : TTok P tt) {M : Mem} {t : TypeId} {ti : TI} (ht : lk t tt = some ti) {v : Value} {d : D} (h : Rep tt M ti.kt v d) : ∀ c ∈ v.cells.toList, c.oneCell' = true := by
  obtain ⟨h1, h2, h3⟩ := h.kt_cells hT ht
  intro c hc
  obtain ⟨i, hi, rfl⟩ := List.mem_iff_getElem.1 hc
  rw [Array.length_toList] at hi
  have hr := h3 i (by omega) hi (by omega)
  rw [Array.getElem_toList]
  exact (hr.cells_single ((hT t ti ht).single _ (List.getElem_mem _))).2.2

theorem SVRel0.one {tt : TT} {ι : Nat → Value} {M : Mem} {s : SV} {v : Value} {k : KT} (hk : k.single = true) (h : SVRel0 tt ι M s v) (hs : (∃ d, s = .val k d) ∨ s = .nil ∨ (∃ id, s = .own id)) : v.oneCell' = true ∧ v.cells = #[v] := by
  rcases hs with ⟨d, rfl⟩ | rfl | ⟨id, rfl⟩
  · have h' : Rep tt M k v d := h
    exact ⟨(h'.cells_single hk).2.2, (h'.cells_single hk).1⟩
  · have h' : v = .slice none 0 0 := h
    rw [h']; exact ⟨rfl, rfl⟩
  · obtain ⟨h', a, n, c, hι⟩ := h
    rw [h', hι]; exact ⟨rfl, rfl⟩

section
variable {P : Program} {E : Env} (hT : TTok P E.tt) {draw : Bool} {st : St} {ops : List Oper} {L : List (Nat × Bool)} {a : Act} {w w0 : World} {X : Nat → Prop} {Mx : Mem} {ι : Nat → Value} {M : Mem}
  (hev : ∀ x s, ev st ops L x = some s → SVRel E.tt ι M s (a.eval x))
  (H : HRel E.tt X w0 Mx ι M st.objs w) (hwf : WF st)

include H hwf in
/-- An object's content replaced, in its own block. -/
theorem write_step {id : Nat} {ob ob' : Obj} (hob : st.objs id = some ob) {b : Nat} (hb : blockOf (ι id) = some b) {cs : Array Value} (hnew : ObjRel E.tt ι M (w.setRow b cs) id ob')
    (hrefs : ∀ i, i ∈ objRefs0 ob' → ∃ o, st.objs i = some o) : Steps1 E.tt X w0 Mx ι M st { st with objs := put st.objs id (some ob') } (w.setRow b cs) .gone undef := by
  have hin : ∀ i o, st.objs i = some o → ∃ o, put st.objs id (some ob') i = some o := by
    intro i o ho
    by_cases hi : i = id
    · subst hi; exact ⟨ob', put_same _ _ _⟩
    · exact ⟨o, by rw [put_other _ _ _ hi]; exact ho⟩
  refine ⟨ι, ?_, fun t s1 hs1 => ⟨s1, hs1, fun v0 h => h⟩, trivial, rfl, ⟨?_, ?_⟩, fun i hi => by cases hi⟩
  · have := H.change (grown_setRow w b cs) (id := id) (x := ι id) (fun b' hb' => ⟨⟨ob, hob⟩, by injection hb' with hb'; rw [← hb']; exact hb⟩) (fun b' hb' => .inl ⟨⟨ob, hob⟩, hb'⟩) (objs' := put st.objs id (some ob')) ?_ ?_
    · rwa [put_self] at this
    · intro i o' hi ho'
      rw [put_other _ _ _ hi] at ho'
      exact ⟨o', ho', fun hr hh => by rw [put_self]; exact hr.same hh⟩
    · intro o' ho'
      rw [put_same] at ho'
      injection ho' with ho'; subst ho'
      rw [put_self]; exact hnew
  · intro t s1 hs1 i hi
    obtain ⟨o, ho⟩ := hwf.slots t s1 hs1 i hi
    exact hin i o ho
  · intro j o hj i hi
    by_cases hji : j = id
    · subst hji
      simp only [put_same, Option.some.injEq] at hj
      subst hj
      obtain ⟨o2, ho2⟩ := hrefs i hi
      exact hin i o2 ho2
    · simp only [put_other _ _ _ hji] at hj
      obtain ⟨o2, ho2⟩ := hwf.cells j o hj i hi
      exact hin i o2 ho2

theorem SVRel0.known {tt : TT} {ι : Nat → Value} {M : Mem} {s : SV} {v : Value} (hk : knownC s = true) (h : SVRel0 tt ι M s v) : v.oneCell' = true := by
  cases s with
  | val k d =>
    have h' : Rep tt M k v d := h
    exact (h'.cells_single (by cases k <;> first | rfl | cases hk)).2.2
  | nil =>
    have h' : v = .slice none 0 0 := h
    rw [h']; rfl
  | own i =>
    obtain ⟨h', a, n, c, hι⟩ := h
    rw [h', hι]; rfl
  | selfn i =>
    rcases h with h' | ⟨b, _, h'⟩ <;> rw [h'] <;> rfl
  | _ => cases hk
theorem allKnown_mem {l : List SV} (h : allKnown l = true) : ∀ s ∈ l, knownC s = true := by
  induction l with
  | nil => intro s hs; cases hs
  | cons x r ih =>
    intro s hs
    simp only [allKnown] at h
    cases hx : knownC x with
    | false => rw [hx] at h; cases h
    | true =>
      rw [hx] at h
      rcases List.mem_cons.1 hs with rfl | hs
      · exact hx
      · exact ih h s hs

theorem boxStore_cases {tt : TT} {t : TypeId} {ti : TI} {c c' : BC} {off : Nat} {k : KT} {s : SV} (h : boxStore tt t ti c off k s = some c') :
    (∃ q d, k = .agg q ∧ svD k s = some d ∧ ((off = 0 ∧ q = t ∧ c' = .whole d) ∨ ∃ tu, lk q tt = some tu ∧ c' = .cells (setSVs (c.toCells ti) off (expand tu.cells d 0)))) ∨
    (k.single = true ∧ c' = .cells ((c.toCells ti).set off s) ∧ ((∃ d, s = .val k d) ∨ s = .nil ∨ ∃ id, s = .own id)) ∨
    (∃ q ks l, k = .agg q ∧ s = .sag q ks l ∧ allKnown l = true ∧ c' = .cells (setSVs (c.toCells ti) off l)) := by
  cases k with
  | agg q =>
    by_cases hsag : ∃ u ks l, s = .sag u ks l
    · obtain ⟨u, ks, l, rfl⟩ := hsag
      right; right
      simp only [boxStore] at h
      replace h := cond_some.1 h
      obtain ⟨hc, h⟩ := h
      injection h with h
      simp only [Bool.and_eq_true] at hc
      have hc1 := beq_iff.1 hc.1
      subst hc1
      exact ⟨q, ks, l, rfl, rfl, hc.2, h.symm⟩
    left
    have h : (match svD (.agg q) s with
      | some d => cond (Nat.beq off 0 && Nat.beq q t) (some (BC.whole d)) (match lk q tt with
        | some tu => some (.cells (setSVs (c.toCells ti) off (expand tu.cells d 0)))
        | none => none)
      | none => none) = some c' := by
      cases s with
      | sag u ks l => exact absurd ⟨u, ks, l, rfl⟩ hsag
      | _ => exact h
    cases hd : svD (.agg q) s with
    | none => rw [hd] at h; cases h
    | some d =>
      rw [hd] at h
      simp only at h
      refine ⟨q, d, rfl, rfl, ?_⟩
      cases hc : (Nat.beq off 0 && Nat.beq q t) with
      | true =>
        rw [hc] at h
        injection h with h
        simp only [Bool.and_eq_true] at hc
        exact .inl ⟨beq_iff.1 hc.1, beq_iff.1 hc.2, h.symm⟩
      | false =>
        rw [hc] at h
        simp only [cond_false] at h
        cases hu : lk q tt with
        | none => rw [hu] at h; cases h
        | some tu =>
          rw [hu] at h
          injection h with h
          exact .inr ⟨tu, rfl, h.symm⟩
  | bool | int _ | str | ptr =>
    all_goals
      right; left
      refine ⟨rfl, ?_⟩
      cases s with
      | val k' d =>
        simp only [boxStore] at h
        replace h := cond_some.1 h
        obtain ⟨he, h⟩ := h
        have he := KT.eq_iff.1 he
        subst he
        injection h with h
        exact ⟨h.symm, .inl ⟨d, rfl⟩⟩
      | _ => simp [boxStore] at h
  | slice e =>
    right; left
    refine ⟨rfl, ?_⟩
    cases s with
    | val k' d =>
      simp only [boxStore] at h
      replace h := cond_some.1 h
      obtain ⟨he, h⟩ := h
      have he := KT.eq_iff.1 he
      subst he
      injection h with h
      exact ⟨h.symm, .inl ⟨d, rfl⟩⟩
    | nil => simp only [boxStore] at h; injection h with h; exact ⟨h.symm, .inr (.inl rfl)⟩
    | own id => simp only [boxStore] at h; injection h with h; exact ⟨h.symm, .inr (.inr ⟨id, rfl⟩)⟩
    | _ => simp [boxStore] at h

include hT hev H hwf in
theorem store_sound {o : Oper} {t : TypeId} {x y : Operand} (ho : o.op = .store t x y) {c : Bool} {id : Nat} {ob : Obj} {scr : Bool} {v : SV} (h : storeO E st ops L t x y = some (.ob c id ob scr v)) : Does P E.tt X w0 Mx ι M a w o st (obSt st id ob scr) v := by
  unfold storeO at h
  replace h := opt_some.1 h
  obtain ⟨ti, ht, h⟩ := h
  replace h := opt_some.1 h
  obtain ⟨s1, hs1, h⟩ := h
  replace h := opt_some.1 h
  obtain ⟨sv, hsv, h⟩ := h
  have hr1 := hev x s1 hs1
  have hr2 := hev y sv hsv
  obtain ⟨inf, hinf, hsz, _⟩ := (hT t ti ht).info
  have hexec : execOp a.eval o = (do Instr.storeAt t (a.eval x) (a.eval y); pure .skip) := by simp [execOp, ho]
  have hrun : ∀ (b off : Nat) (cs : Array Value) (tb : TypeId) (fr : Nat × Nat), a.eval x = .pointer (some ⟨b, off, none⟩) → (a.eval y).cells.size = ti.cells.length → w.heap[b]? = some (.cells cs tb fr) → (cs.size ≤ fr.1 ∨ fr.2 ≤ fr.1) → off + ti.cells.length ≤ cs.size →
      (∀ c ∈ (a.eval y).cells.toList, c.oneCell' = true) → (execOp a.eval o).run P w = .ok .skip (w.setRow b (cs.toList.take off ++ (a.eval y).cells.toList ++ cs.toList.drop (off + (a.eval y).cells.toList.length)).toArray) := by
    intro b off cs tb fr hx hys hheap hfr hle hone
    have hst := run_storeCells_fr P b off tb fr (a.eval y).cells.toList 0 cs w hheap hfr (by rw [Array.length_toList]; omega) hone
    rw [hexec, hx]
    simp only [Instr.storeAt, Instr.sureAddr, pure_bind, storeVar, Sem.run_bind, run_size hinf, Result.andThen_ok, hsz, hys]
    rw [if_neg (by simp)]
    simp only [Sem.run_pure, Result.andThen_ok, Nat.add_zero] at hst ⊢
    rw [hst]; rfl
  split at h
  · rename_i id u' off k
    replace h := cond_some.1 h
    obtain ⟨hk, h⟩ := h
    have hk := KT.eq_iff.1 hk
    obtain ⟨hka, b, hι, hv⟩ := hr1
    cases hob : st.objs id with
    | none => rw [hob] at h; cases h
    | some ob =>
      rw [hob] at h
      have hor := H.obj id ob hob
      cases ob with
      | arr e es => cases h
      | box u bc =>
        replace h := cond_some.1 h
        obtain ⟨hu, h⟩ := h
        have hu := beq_iff.1 hu
        subst hu
        replace h := opt_some.1 h
        obtain ⟨ui, hui, h⟩ := h
        replace h := opt_some.1 h
        obtain ⟨c', hc', h⟩ := h
        injection h with h; injection h with h1 h2 h3 h4 h5; subst h1 h2 h3 h4 h5
        obtain ⟨ui', b', cs, hui', hι', hheap, hbc⟩ := hor
        rw [hui] at hui'; cases hui'
        rw [hι] at hι'; injection hι' with hι'; injection hι' with hι'; injection hι' with hb; subst hb
        obtain ⟨ui2, t', ti', hu2, ht', hk3, hcc, hll⟩ := hka
        rw [hui] at hu2; cases hu2
        have hcs := (toCells_rel hT hui hbc).1
        have hlen : ti'.cells.length = ti.cells.length := by
          cases hkk : k with
          | agg q =>
            have e1 := (hT _ _ ht').agg_self (hk3.trans hkk)
            have e2 := (hT _ _ ht).agg_self (hk.symm.trans hkk)
            subst e1; rw [e2] at ht'; rw [ht] at ht'; cases ht'; rfl
          | _ =>
            rw [(hT _ _ ht').cells_of_single (by rw [hk3, hkk]; rfl), (hT _ _ ht).cells_of_single (by rw [← hk, hkk]; rfl)]; rfl
        -- what is stored: cells that hold slots' values
        have hgen : ∀ (ss : List SV), (a.eval y).cells.size = ti.cells.length → (∀ c ∈ (a.eval y).cells.toList, c.oneCell' = true) → ss.length = (a.eval y).cells.toList.length →
            (∀ (i : Nat) (s : SV) (c : Value), ss[i]? = some s → (a.eval y).cells.toList[i]? = some c → SVRel0 E.tt ι M s c) → (∀ i, i ∈ refsL ss → ∃ o, st.objs i = some o) →
            ∀ c'', (c'' = .cells (setSVs (bc.toCells ui) off ss) ∨ (∃ d, c'' = .whole d ∧ off = 0 ∧ (∃ q, ui.kt = .agg q) ∧ Rep E.tt M ui.kt (.agg (a.eval y).cells) d)) →
            Does P E.tt X w0 Mx ι M a w o st { st with objs := put st.objs id (some (.box u c'')) } .gone := by
          intro ss hys hone hsl hsr href c'' hc''
          have hrow := hrun b off cs u (0, 0) hv hys hheap (.inr (Nat.le_refl _)) (by omega) hone
          refine ⟨undef, _, .inr ⟨hrow, rfl⟩, ?_⟩
          refine write_step H hwf hob (by rw [hι]; rfl) ?_ ?_
          · rcases hc'' with rfl | ⟨d, rfl, h0, hag, hrep⟩
            · exact ⟨ui, b, _, hui, hι, setRow_heap w b cs _ u _ hheap, seg_rel (toCells_rel hT hui hbc) hsl (by rw [Array.length_toList]; omega) hsr⟩
            · refine ⟨ui, b, _, hui, hι, setRow_heap w b cs _ u _ hheap, hag, ?_⟩
              subst h0
              have e : (cs.toList.take 0 ++ (a.eval y).cells.toList ++ cs.toList.drop (0 + (a.eval y).cells.toList.length)).toArray = (a.eval y).cells := by
                have : cs.toList.drop (0 + (a.eval y).cells.toList.length) = [] := by
                  apply List.drop_eq_nil_of_le
                  have := (hrep.kt_cells hT hui).1
                  change (a.eval y).cells.size = _ at this
                  rw [Array.length_toList, Array.length_toList]; omega
                rw [this]; simp
              rw [e]; exact hrep
          · rcases hc'' with rfl | ⟨d, rfl, _⟩
            · intro i hi0
              simp only [objRefs0] at hi0
              obtain ⟨s, hs, hi⟩ := mem_refsL.1 hi0
              clear hi0
              obtain ⟨j, hj⟩ := List.getElem?_of_mem hs
              rw [setSVs_get _ _ _ _ (by rw [(toCells_rel hT hui hbc).2.1, hsl, Array.length_toList]; omega)] at hj
              split at hj
              · exact href i (mem_refsL.2 ⟨s, List.mem_of_getElem? hj, hi⟩)
              · cases bc with
                | whole d =>
                  simp only [BC.toCells] at hj
                  rw [expand_get, Option.map_eq_some_iff] at hj
                  obtain ⟨k', _, rfl⟩ := hj
                  simp [refs0] at hi
                | cells l => exact hwf.cells id _ hob i (mem_refsL.2 ⟨s, List.mem_of_getElem? hj, hi⟩)
            · intro i hi; simp [objRefs0] at hi
        have hset : ∀ (l : List SV) (s : SV), l.set off s = setSVs l off [s] := fun l s => rfl
        have hsingle : ∀ s', k.single = true → SVRel0 E.tt ι M s' (a.eval y) → (a.eval y).oneCell' = true ∧ (a.eval y).cells = #[a.eval y] → (∀ i, i ∈ refs0 s' → ∃ o, st.objs i = some o) →
            Does P E.tt X w0 Mx ι M a w o st { st with objs := put st.objs id (some (.box u (.cells ((bc.toCells ui).set off s')))) } .gone := by
          intro s' hks hsr ⟨h1, h2⟩ href
          have hl1 : ti.cells.length = 1 := by rw [(hT _ _ ht).cells_of_single (by rw [← hk]; exact hks)]; rfl
          refine hgen [s'] (by rw [h2, hl1]; rfl) (by rw [h2]; simpa using h1) (by rw [h2]; rfl) ?_ ?_ _ (.inl (by rw [hset]))
          · intro i s c hs hc
            rw [h2] at hc
            cases i with
            | zero => simp at hs hc; subst hs hc; exact hsr
            | succ i => simp at hs
          · intro i hi; simp only [refsL, List.append_nil] at hi; exact href i hi
        rcases boxStore_cases hc' with ⟨q, d, hkq, hd, hcase⟩ | ⟨hks, rfl, hcase⟩ | ⟨q, ks, l, hkq, rfl, hkn, rfl⟩
        · have hrep := svD_rel hd hr2
          have hrt : Rep E.tt M ti.kt (a.eval y) d := by rw [← hk]; exact hrep
          have hys := (hrt.kt_cells hT ht).1
          have hone := hrt.cells_one hT ht
          have htq : q = t := (hT _ _ ht).agg_self (hk.symm.trans hkq)
          have hvagg : ∃ cc, a.eval y = .agg cc := by rw [hkq] at hrep; obtain ⟨_, cs, hv, _⟩ := hrep.inv_agg; exact ⟨_, hv⟩
          have hnoref : ∀ ks : List KT, ∀ i, i ∈ refsL (expand ks d 0) → ∃ o, st.objs i = some o := by
            intro ks i hi0
            obtain ⟨s, hs, hi⟩ := mem_refsL.1 hi0
            clear hi0
            obtain ⟨j, hj⟩ := List.getElem?_of_mem hs
            rw [expand_get, Option.map_eq_some_iff] at hj
            obtain ⟨k', _, rfl⟩ := hj
            simp [refs0] at hi
          rcases hcase with ⟨h0, hq, rfl⟩ | ⟨tu, htu, rfl⟩
          · have hui2 : ui = ti := by rw [← hq, htq, ht] at hui; injection hui with hui; exact hui.symm
            subst hui2
            refine hgen (expand ui.cells d 0) hys hone (by rw [expand_length, Array.length_toList]; omega) (fun i s c hs hc => expand_rel hT hui hrt i s c hs (by rw [← Array.getElem?_toList]; exact hc)) (hnoref _) _ (.inr ⟨d, rfl, h0, ⟨q, hk.symm.trans hkq⟩, ?_⟩)
            obtain ⟨cc, hcc3⟩ := hvagg
            rw [hcc3] at hrt ⊢; exact hrt
          · rw [htq, ht] at htu; cases htu
            exact hgen (expand ti.cells d 0) hys hone (by rw [expand_length, Array.length_toList]; omega) (fun i s c hs hc => expand_rel hT ht hrt i s c hs (by rw [← Array.getElem?_toList]; exact hc)) (hnoref _) _ (.inl rfl)
        · have h0 : SVRel0 E.tt ι M sv (a.eval y) := by rcases hcase with ⟨d, rfl⟩ | rfl | ⟨id', rfl⟩ <;> exact hr2
          refine hsingle sv hks h0 (SVRel0.one hks h0 hcase) (fun i hi => ?_)
          rcases hcase with ⟨d, rfl⟩ | rfl | ⟨id', rfl⟩
          · simp [refs0] at hi
          · simp [refs0] at hi
          · cases y with
            | tmp ty =>
              simp only [ev] at hsv
              replace hsv := cond_some.1 hsv
              exact hwf.slots ty _ hsv.2 i hi
            | const v =>
              simp only [ev] at hsv
              unfold constSV at hsv
              split at hsv
              · cases hsv
              · have := (cond_some.1 hsv).2; cases this
              · have := (cond_some.1 hsv).2; cases this
              · cases hsv
              · cases hsv
              · cases hsv
            | _ => simp [ev] at hsv
        · obtain ⟨ti3, vs, g1, g2, g3, g4, g5, g6, g7⟩ := hr2
          have htq : q = t := (hT _ _ ht).agg_self (hk.symm.trans hkq)
          rw [htq, ht] at g1; injection g1 with g1; subst g1
          have hyc : (a.eval y).cells = vs.toArray := by rw [g4]; rfl
          have hkl : ks.length = ti.cells.length := by rw [g3]
          refine hgen l (by rw [hyc]; simp; omega) ?_ (by rw [hyc]; simp; omega) ?_ ?_ _ (.inl rfl)
          · intro c hc
            rw [hyc] at hc
            obtain ⟨i, hi⟩ := List.getElem?_of_mem (show c ∈ vs by simpa using hc)
            have hlt : i < l.length := by have := (List.getElem?_eq_some_iff.1 hi).1; omega
            exact (g7 i l[i] c (List.getElem?_eq_getElem hlt) hi).known (allKnown_mem hkn _ (List.getElem_mem hlt))
          · intro i s c hs hc
            rw [hyc] at hc
            exact g7 i s c hs (by simpa using hc)
          · intro i hi
            cases y with
            | tmp ty =>
              simp only [ev] at hsv
              replace hsv := cond_some.1 hsv
              exact hwf.slots ty _ hsv.2 i hi
            | const v =>
              simp only [ev] at hsv
              unfold constSV at hsv
              split at hsv
              · cases hsv
              · have := (cond_some.1 hsv).2; cases this
              · have := (cond_some.1 hsv).2; cases this
              · cases hsv
              · cases hsv
              · cases hsv
            | _ => simp [ev] at hsv
  · rename_i id e' i off k
    replace h := cond_some.1 h
    obtain ⟨hk, h⟩ := h
    have hk := KT.eq_iff.1 hk
    replace h := opt_some.1 h
    obtain ⟨d, hd, h⟩ := h
    have hrep := svD_rel hd hr2
    have hrt : Rep E.tt M ti.kt (a.eval y) d := by rw [← hk]; exact hrep
    have hys := (hrt.kt_cells hT ht).1
    have hone := hrt.cells_one hT ht
    obtain ⟨hka, b, n, cap, ei, hei, hι, hi0, hin, hv⟩ := hr1
    cases hob : st.objs id with
    | none => rw [hob] at h; cases h
    | some ob =>
      rw [hob] at h
      have hor := H.obj id ob hob
      cases ob with
      | box u bc => cases h
      | arr e es =>
        replace h := cond_some.1 h
        obtain ⟨he, h⟩ := h
        have he := beq_iff.1 he
        subst he
        replace h := opt_some.1 h
        obtain ⟨ei', hei', h⟩ := h
        rw [hei] at hei'; cases hei'
        obtain ⟨ei', hei', hpos, harr⟩ := hor
        rw [hei] at hei'; cases hei'
        rcases harr with ⟨h1, _⟩ | ⟨b', cap', cur, tt', fr, vs, h1, hheap, hlen, hcap, hcur, hfr, hall⟩
        · rw [hι] at h1; cases h1
        · rw [hι] at h1
          injection h1 with h1 h2 h3
          injection h1 with h1
          injection h1 with h1
          subst h1 h2 h3
          have hin' : i.toNat < es.length := by omega
          obtain ⟨hz, hcells, hrepE⟩ := hall i.toNat hin'
          have hget : es.getD i.toNat .no = es[i.toNat] := by simp [List.getD_eq_getElem?_getD, List.getElem?_eq_getElem hin']
          rw [hget] at h
          obtain ⟨ui2, t', ti', hu2, ht', hk3, hcc, hll⟩ := hka
          rw [hei] at hu2; cases hu2
          have htt : ti'.cells = ti.cells := by
            cases hkk : k with
            | agg q =>
              have e1 := (hT _ _ ht').agg_self (hk3.trans hkk)
              have e2 := (hT _ _ ht).agg_self (hk.symm.trans hkk)
              subst e1; rw [e2] at ht'; rw [ht] at ht'; cases ht'; rfl
            | _ =>
              rw [(hT _ _ ht').cells_of_single (by rw [hk3, hkk]; rfl), (hT _ _ ht).cells_of_single (by rw [← hk, hkk]; rfl), hk3, hk]
          rw [htt] at hcc hll
          have hle : i.toNat * ei.cells.length + off + ti.cells.length ≤ cur.size := by
            rw [hcur]
            have h1 : (i.toNat + 1) * ei.cells.length ≤ cap * ei.cells.length := Nat.mul_le_mul_right _ (by omega)
            rw [Nat.add_mul] at h1; omega
          have hyl : (a.eval y).cells.toList.length = ti.cells.length := by rw [Array.length_toList]; exact hys
          have hrow := hrun b (i.toNat * ei.cells.length + off) cur tt' fr hv hys hheap hfr hle hone
          obtain ⟨k1, k2, k3⟩ := hrepE.kt_cells hT hei
          obtain ⟨d1, d2, d3⟩ := hrt.kt_cells hT ht
          have hmain : ∀ (nd : D) (nv : Value), nv.cells.size = ei.cells.length → (∀ j u, nv.cells[j]? = some u → (if off ≤ j ∧ j < off + ti.cells.length then (a.eval y).cells[j - off]? else (vs i.toNat).cells[j]?) = some u) → Rep E.tt M ei.kt nv nd →
              Does P E.tt X w0 Mx ι M a w o st { st with objs := put st.objs id (some (.arr e (es.set i.toNat nd))) } .gone := by
            intro nd nv hnz hnc hnr
            refine ⟨undef, _, .inr ⟨hrow, rfl⟩, write_step H hwf hob (by rw [hι]; rfl) ?_ (fun i hi => by simp [objRefs0] at hi)⟩
            refine ⟨ei, hei, hpos, .inr ⟨b, cap, _, tt', fr, fun j => if j = i.toNat then nv else vs j, ?_, setRow_heap w b cur _ tt' fr hheap, ?_, hcap, ?_, ?_, ?_⟩⟩
            · rw [hι, List.length_set]
            · rw [List.length_set]; exact hlen
            · simp; omega
            · simp; omega
            · intro j hj
              rw [List.length_set] at hj
              by_cases hji : j = i.toNat
              · subst hji
                simp only [if_true]
                refine ⟨hnz, ?_, by simp only [List.getElem_set_self]; exact hnr⟩
                intro q u hu
                have hq := (Array.getElem?_eq_some_iff.1 hu).1
                have := hnc q u hu
                rw [List.getElem?_toArray, seg_get _ _ _ _ (by rw [hyl, Array.length_toList]; exact hle), hyl]
                by_cases hin2 : off ≤ q ∧ q < off + ti.cells.length
                · rw [if_pos hin2] at this
                  rw [if_pos ⟨by omega, by omega⟩, Array.getElem?_toList, ← this]
                  congr 1; omega
                · rw [if_neg hin2] at this
                  rw [if_neg (by omega), Array.getElem?_toList]
                  exact hcells q u this
              · simp only [if_neg hji]
                obtain ⟨z1, z2, z3⟩ := hall j hj
                refine ⟨z1, ?_, by simp only [List.getElem_set]; rw [if_neg (fun e => hji e.symm)]; exact z3⟩
                intro q u hu
                have hq := (Array.getElem?_eq_some_iff.1 hu).1
                have hne : ¬ (i.toNat * ei.cells.length + off ≤ j * ei.cells.length + q ∧ j * ei.cells.length + q < i.toNat * ei.cells.length + off + ti.cells.length) := by
                  rcases Nat.lt_or_gt_of_ne hji with hlt | hgt
                  · have h2 : (j + 1) * ei.cells.length ≤ i.toNat * ei.cells.length := Nat.mul_le_mul_right _ hlt
                    rw [Nat.add_mul] at h2; omega
                  · have h2 : (i.toNat + 1) * ei.cells.length ≤ j * ei.cells.length := Nat.mul_le_mul_right _ hgt
                    rw [Nat.add_mul] at h2; omega
                rw [List.getElem?_toArray, seg_get _ _ _ _ (by rw [hyl, Array.length_toList]; exact hle), hyl, if_neg hne, Array.getElem?_toList]
                exact z2 q u hu
          revert h
          cases hcond : (Nat.beq off 0 && KT.eq k ei.kt) with
          | true =>
            intro h
            injection h with h; injection h with h1 h2 h3 h4 h5; subst h1 h2 h3 h4 h5
            simp only [Bool.and_eq_true] at hcond
            have h0 := beq_iff.1 hcond.1
            have hke := KT.eq_iff.1 hcond.2
            have h5 : Rep E.tt M ei.kt (a.eval y) d := by rw [← hke]; exact hrep
            have h6 := (h5.kt_cells hT hei).1
            refine hmain d (a.eval y) h6 ?_ h5
            intro j u hu
            have hj := (Array.getElem?_eq_some_iff.1 hu).1
            rw [if_pos ⟨by omega, by omega⟩, h0]; exact hu
          | false =>
            simp only [cond_false]
            intro h
            replace h := cond_some.1 h
            obtain ⟨hag, h⟩ := h
            injection h with h; injection h with h1 h2 h3 h4 h5; subst h1 h2 h3 h4 h5
            have hagg : ∃ q, ei.kt = .agg q := by
              cases hk' : ei.kt <;> rw [hk'] at hag <;> first | exact ⟨_, rfl⟩ | simp [isAggK] at hag
            obtain ⟨q, hq⟩ := hagg
            have hqe := (hT _ _ hei).agg_self hq
            subst hqe
            have hsp : setPart es[i.toNat] off k d = .agg (setCells es[i.toNat].cells off d.cells) := by
              cases hkk : k with
              | agg q => rfl
              | _ =>
                have := (hrep.cells_single (by rw [hkk]; rfl)).2.1
                rw [this]; rfl
            rw [hsp]
            have hl8 : off + (a.eval y).cells.toList.length ≤ (vs i.toNat).cells.toList.length := by rw [hyl, Array.length_toList, k1]; exact hll
            refine hmain _ (.agg ((vs i.toNat).cells.toList.take off ++ (a.eval y).cells.toList ++ (vs i.toNat).cells.toList.drop (off + (a.eval y).cells.toList.length)).toArray) ?_ ?_ ?_
            · show (List.toArray _).size = _
              simp only [List.size_toArray, List.length_append, List.length_take, List.length_drop]
              rw [Array.length_toList] at hl8 ⊢
              omega
            · intro j u hu
              change (List.toArray _)[j]? = some u at hu
              rw [List.getElem?_toArray, seg_get _ _ _ _ hl8, hyl] at hu
              simpa using hu
            · rw [hq]
              refine .agg q ei _ _ hei hq ?_ (by rw [setCells_length]; exact k2) ?_
              · simp only [List.length_append, List.length_take, List.length_drop]
                rw [Array.length_toList] at hl8 ⊢
                omega
              · intro j h1 h2 h3
                have g1 := seg_get (vs i.toNat).cells.toList (a.eval y).cells.toList off j hl8
                have g2 := setCells_get d.cells es[i.toNat].cells off j (by omega)
                rw [List.getElem?_eq_getElem h2] at g1
                rw [List.getElem?_eq_getElem h3] at g2
                by_cases hin2 : off ≤ j ∧ j < off + ti.cells.length
                · rw [if_pos ⟨hin2.1, by rw [hyl]; exact hin2.2⟩] at g1
                  rw [if_pos ⟨hin2.1, by rw [d2]; exact hin2.2⟩] at g2
                  rw [Array.getElem?_toList, Array.getElem?_eq_getElem (by omega)] at g1
                  rw [List.getElem?_eq_getElem (by omega)] at g2
                  injection g1 with g1; injection g2 with g2
                  rw [g1, g2]
                  have h4 := congrArg (fun l => l[j - off]?) hcc
                  simp only [List.getElem?_take, List.getElem?_drop] at h4
                  rw [if_pos (by omega), show off + (j - off) = j by omega, List.getElem?_eq_getElem h1, List.getElem?_eq_getElem (by omega)] at h4
                  injection h4 with h4
                  rw [h4]
                  exact d3 (j - off) (by omega) (by omega) (by omega)
                · rw [if_neg (by rw [hyl]; exact hin2)] at g1
                  rw [if_neg (by rw [d2]; exact hin2)] at g2
                  rw [Array.getElem?_toList, Array.getElem?_eq_getElem (by omega)] at g1
                  rw [List.getElem?_eq_getElem (by omega)] at g2
                  injection g1 with g1; injection g2 with g2
                  rw [g1, g2]
                  exact k3 j h1 (by omega) (by omega)
  · cases h

end
end Go.Proofs.Ytbinmfenhbpdnaa.DS

namespace Go.Proofs.Ytbinmfenhbpdnaa.DS
open Go.RowKit

/-- The cells of n values, one behind the other. -/
def flat (vs : Nat → Value) (n size : Nat) : List Value := (List.range (n * size)).map fun j => (vs (j / size)).cells.getD (j % size) undef
theorem flat_length (vs : Nat → Value) (n size : Nat) : (flat vs n size).length = n * size := by simp [flat]
theorem flat_get {vs : Nat → Value} {n size i j : Nat} (hi : i < n) (hj : j < size) (hz : (vs i).cells.size = size) : (flat vs n size)[i * size + j]? = (vs i).cells[j]? := by
  have hlt : i * size + j < n * size := by
    have : (i + 1) * size ≤ n * size := Nat.mul_le_mul_right _ hi
    rw [Nat.add_mul] at this; omega
  have e1 : (i * size + j) / size = i := by
    rw [Nat.mul_comm, Nat.mul_add_div (by omega)]; simp [Nat.div_eq_of_lt hj]
  have e2 : (i * size + j) % size = j := by
    rw [Nat.mul_comm, Nat.mul_add_mod]; exact Nat.mod_eq_of_lt hj
  unfold flat
  rw [List.getElem?_map, List.getElem?_range hlt]
  simp [e1, e2, Array.getD, hz, hj]
theorem flat_mem {vs : Nat → Value} {n size : Nat} {p : Value → Prop} (hz : ∀ i, i < n → (vs i).cells.size = size) (hp : ∀ i, i < n → ∀ c ∈ (vs i).cells.toList, p c) : ∀ c ∈ flat vs n size, p c := by
  intro c hc
  obtain ⟨k, hk, rfl⟩ := List.mem_iff_getElem.1 hc
  rw [flat_length] at hk
  have hs : 0 < size := by rcases Nat.eq_zero_or_pos size with h | h; (subst h; simp at hk); exact h
  have h1 : k / size < n := (Nat.div_lt_iff_lt_mul hs).2 hk
  have h2 : k % size < size := Nat.mod_lt _ hs
  have h3 := flat_get (vs := vs) h1 h2 (hz _ h1)
  rw [Nat.mul_comm, Nat.div_add_mod, List.getElem?_eq_getElem (by rw [flat_length]; exact hk)] at h3
  refine hp _ h1 _ ?_
  rw [Array.mem_toList_iff]
  exact Array.mem_of_getElem? h3.symm

/-- What is appended. -/
structure Src (P : Program) (tt : TT) (M : Mem) (w : World) (ei : TI) (x : Value) (ds : List D) (vs : Nat → Value) : Prop where
  len : ∀ w', (Builtin.lenOf x).run P w' = .ok ds.length w'
  cells : ∀ w', w'.heap = w.heap → (Builtin.firstCells ei.cells.length ds.length x).run P w' = .ok (flat vs ds.length ei.cells.length).toArray w'
  each : ∀ i (h : i < ds.length), (vs i).cells.size = ei.cells.length ∧ Rep tt M ei.kt (vs i) ds[i]

section
variable {P : Program} {tt : TT} (hT : TTok P tt) {M : Mem} {w : World}

theorem src_slice {e : TypeId} {ei : TI} (hei : lk e tt = some ei) {ad : Addr} (hs : ad.spot = none) {len cap : Nat} {xs : List D} {vs : Nat → Value} (hl : xs.length = len) (hz : ∀ i, i < xs.length → (vs i).cells.size = ei.cells.length)
    (hc : ∀ i j u, i < xs.length → (vs i).cells[j]? = some u → w.cell? ⟨ad.block, ad.off + (i * ei.cells.length + j), none⟩ = some u) (hr : ∀ i (h : i < xs.length), Rep tt M ei.kt (vs i) xs[i]) :
    Src P tt M w ei (.slice (some ad) len cap) xs vs := by
  refine ⟨fun w' => by simp [Builtin.lenOf, hl], fun w' hw' => ?_, fun i h => ⟨hz i h, hr i h⟩⟩
  refine run_firstCells_some w' _ _ ad len cap _ (by rw [flat_length]) (fun k v hk => ?_)
  have hk' := (List.getElem?_eq_some_iff.1 hk).1
  rw [flat_length] at hk'
  have hs' : 0 < ei.cells.length := by rcases Nat.eq_zero_or_pos ei.cells.length with h | h; (rw [h] at hk'; simp at hk'); exact h
  have h1 : k / ei.cells.length < xs.length := (Nat.div_lt_iff_lt_mul hs').2 hk'
  have h2 : k % ei.cells.length < ei.cells.length := Nat.mod_lt _ hs'
  have h3 := flat_get (vs := vs) h1 h2 (hz _ h1)
  have h4 : k / ei.cells.length * ei.cells.length + k % ei.cells.length = k := by rw [Nat.mul_comm]; exact Nat.div_add_mod _ _
  rw [h4, hk] at h3
  have h5 := hc _ _ _ h1 h3.symm
  rw [h4] at h5
  rw [add_spot _ hs, ← h5]
  simp [World.cell?, hw']

theorem src_nil {ei : TI} {len cap : Nat} (h0 : len = 0) (a : Option Addr) (ha : a = none ∨ ∃ ad, a = some ad) : Src P tt M w ei (.slice a len cap) [] (fun _ => undef) := by
  subst h0
  refine ⟨fun w' => by simp [Builtin.lenOf], fun w' _ => ?_, fun i h => absurd h (by simp)⟩
  rcases ha with rfl | ⟨ad, rfl⟩
  · simp [Builtin.firstCells, flat]
  · simp [Builtin.firstCells, loadCells, loadCellsFrom, flat]

theorem byte_rep (b : UInt8) : Rep tt M (.int .u8) (.int .u8 (b.toNat : Int)) (.int (b.toNat : Int)) := by
  refine .int _ _ ?_
  have := b.toNat_lt
  simp only [Lit.wf, IntKind.min, IntKind.max, IntKind.signed, IntKind.bits, Bool.and_eq_true, decide_eq_true_eq]
  simp; omega

include hT in
theorem src_str {e : TypeId} {ei : TI} (hei : lk e tt = some ei) (hk : ei.kt = .int .u8) (s : ByteArray) : Src P tt M w ei (.string s) (bytesD s.data.toList) (fun i => .int .u8 ((s.data.toList.getD i 0).toNat : Int)) := by
  have hc1 := (hT e ei hei).cells_of_single (by rw [hk]; rfl)
  have hl1 : ei.cells.length = 1 := by rw [hc1]; rfl
  have hsz : (bytesD s.data.toList).length = s.size := by simp [bytesD]
  refine ⟨fun w' => by simp [Builtin.lenOf, hsz], fun w' _ => ?_, fun i h => ?_⟩
  · simp only [Builtin.firstCells, Sem.run_pure]
    congr 1
    apply Array.ext'
    rw [hl1, hsz]
    apply List.ext_getElem?
    intro i
    rw [Array.toList_map, List.getElem?_map]
    have e1 : (s.extract 0 s.size).data.toList = s.data.toList := by simp
    rw [e1]
    by_cases hi : i < s.size
    · have hi' : i < s.data.toList.length := by rw [Array.length_toList]; exact hi
      rw [List.getElem?_eq_getElem hi']
      simp only [flat, Nat.mul_one, List.getElem?_map, List.getElem?_range hi, Option.map_some, Nat.div_one, Nat.mod_one]
      simp [Value.cells, List.getD_eq_getElem?_getD, List.getElem?_eq_getElem hi', show i < s.data.size from hi]
    · rw [List.getElem?_eq_none (by rw [Array.length_toList]; exact Nat.le_of_not_lt hi), List.getElem?_eq_none (by rw [flat_length]; omega)]; rfl
  · refine ⟨by rw [hl1]; rfl, ?_⟩
    rw [hk]
    have hi : i < s.data.toList.length := by simpa [bytesD] using h
    have e : (bytesD s.data.toList)[i] = .int ((s.data.toList.getD i 0).toNat : Int) := by
      simp [bytesD, List.getD_eq_getElem?_getD, List.getElem?_eq_getElem hi]
    rw [e]
    exact byte_rep _

/-- A row of two parts. -/
theorem each_append {ei : TI} {es ds : List D} {vs vx : Nat → Value} (h1 : ∀ i (h : i < es.length), (vs i).cells.size = ei.cells.length ∧ Rep tt M ei.kt (vs i) es[i]) (h2 : ∀ i (h : i < ds.length), (vx i).cells.size = ei.cells.length ∧ Rep tt M ei.kt (vx i) ds[i]) :
    ∀ i (h : i < (es ++ ds).length), ((fun i => if i < es.length then vs i else vx (i - es.length)) i).cells.size = ei.cells.length ∧ Rep tt M ei.kt ((fun i => if i < es.length then vs i else vx (i - es.length)) i) (es ++ ds)[i] := by
  intro i h
  simp only
  by_cases hi : i < es.length
  · simp only [hi, if_true, List.getElem_append_left hi]; exact h1 i hi
  · have h' : i - es.length < ds.length := by simp at h; omega
    simp only [hi, if_false, List.getElem_append_right (Nat.le_of_not_lt hi)]
    exact h2 _ h'

theorem flat_append {es ds : List D} {vs vx : Nat → Value} {size : Nat} (h1 : ∀ i, i < es.length → (vs i).cells.size = size) (h2 : ∀ i, i < ds.length → (vx i).cells.size = size) (hs : 0 < size) :
    flat (fun i => if i < es.length then vs i else vx (i - es.length)) (es.length + ds.length) size = flat vs es.length size ++ flat vx ds.length size := by
  apply List.ext_getElem?
  intro k
  by_cases hk : k < (es.length + ds.length) * size
  · have hd : k / size < es.length + ds.length := (Nat.div_lt_iff_lt_mul hs).2 hk
    have hm : k % size < size := Nat.mod_lt _ hs
    have hdm : k / size * size + k % size = k := by rw [Nat.mul_comm]; exact Nat.div_add_mod _ _
    have hz : ((fun i => if i < es.length then vs i else vx (i - es.length)) (k / size)).cells.size = size := by
      by_cases hlt : k / size < es.length
      · simp only [hlt, if_true]; exact h1 _ hlt
      · simp only [hlt, if_false]; exact h2 _ (by omega)
    have h3 := flat_get (vs := fun i => if i < es.length then vs i else vx (i - es.length)) hd hm hz
    rw [hdm] at h3
    clear hz
    rw [h3]
    by_cases hlt : k / size < es.length
    · rw [if_pos hlt, List.getElem?_append_left (by rw [flat_length]; exact (Nat.div_lt_iff_lt_mul hs).1 hlt), ← flat_get hlt hm (h1 _ hlt), hdm]
    · rw [if_neg hlt]
      have hge : es.length * size ≤ k := by
        have := (Nat.le_div_iff_mul_le hs).1 (Nat.le_of_not_lt hlt); exact this
      rw [List.getElem?_append_right (by rw [flat_length]; exact hge), flat_length, ← flat_get (n := ds.length) (show k / size - es.length < ds.length by omega) hm (h2 _ (by omega))]
      congr 1
      rw [Nat.sub_mul]
      have hge2 : es.length * size ≤ k / size * size := Nat.mul_le_mul_right _ (Nat.le_of_not_lt hlt)
      omega
  · rw [List.getElem?_eq_none (by rw [flat_length]; omega), List.getElem?_eq_none (by rw [List.length_append, flat_length, flat_length, ← Nat.add_mul]; omega)]

theorem zeroCells_size (z : Array Value) (n : Nat) : (Builtin.zeroCells z n).size = n * z.size := by simp [Builtin.zeroCells]

/-- The three ways of append. -/
theorem run_app_room {t xt ty e : TypeId} {inf : TypeInfo} (ht : P.underlying t = some (.slice e)) (hxt : (∃ e2, P.underlying xt = some (.slice e2)) ∨ P.underlying xt = some .string) (hinf : P.info? e = some inf) {x : Value} {m : Nat} {news : Array Value}
    (hlen : (Builtin.lenOf x).run P w = .ok m w) (hfc : (Builtin.firstCells inf.size m x).run P w = .ok news w) {a : Addr} {n cap : Nat} (hroom : n + m ≤ cap) {w' : World} (hst : (storeCells (a.add (n * inf.size)) news.toList).run P w = .ok () w') :
    (Builtin.append_ #[t, xt] ty #[.slice (some a) n cap, x]).run P w = .ok (.slice (some a) (n + m) cap) w' := by
  have hlen2 : ∀ s, (Builtin.lenOf (Value.slice s n cap)).run P w = .ok n w := fun s => by simp [Builtin.lenOf]
  rcases hxt with ⟨e2, hx⟩ | hx <;>
  simp [Builtin.append_, run_underlying ht, run_underlying hx, run_size hinf, hlen, hroom, hfc, hst]
theorem run_app_none {t xt ty e : TypeId} {inf : TypeInfo} (ht : P.underlying t = some (.slice e)) (hxt : (∃ e2, P.underlying xt = some (.slice e2)) ∨ P.underlying xt = some .string) (hinf : P.info? e = some inf) {x : Value}
    (hlen : (Builtin.lenOf x).run P w = .ok 0 w) {news : Array Value} (hfc : (Builtin.firstCells inf.size 0 x).run P w = .ok news w) :
    (Builtin.append_ #[t, xt] ty #[.slice none 0 0, x]).run P w = .ok (.slice none 0 0) w := by
  rcases hxt with ⟨e2, hx⟩ | hx <;>
  simp [Builtin.append_, run_underlying ht, run_underlying hx, run_size hinf, hlen, hfc]
theorem run_app_grow {t xt ty e : TypeId} {inf : TypeInfo} {z : Value} (ht : P.underlying t = some (.slice e)) (hxt : (∃ e2, P.underlying xt = some (.slice e2)) ∨ P.underlying xt = some .string) (hinf : P.info? e = some inf) (hz : inf.zero = some z) (hbz : inf.bytes ≠ 0) {x : Value} {m : Nat} {news olds : Array Value}
    (hlen : (Builtin.lenOf x).run P w = .ok m w) (hfc : (Builtin.firstCells inf.size m x).run P w.drew = .ok news w.drew) {s : Option Addr} {n cap : Nat} (hfo : (Builtin.firstCells inf.size n (.slice s n cap)).run P w.drew = .ok olds w.drew) (hroom : ¬ n + m ≤ cap)
    (h48 : ¬ (281474976710656 < Builtin.nextslicecap (n + m) cap * inf.bytes)) :
    (Builtin.append_ #[t, xt] ty #[.slice s n cap, x]).run P w = .ok (.slice (some ⟨w.heap.size, 0, none⟩) (n + m) (grownCap w (n + m) cap e)) (w.drew.alloc (.cells (olds ++ news ++ Builtin.zeroCells z.cells (grownCap w (n + m) cap e - (n + m))) e)) := by
  have h2 : (zeroValue e).run P w.drew = .ok z w.drew := by simp [zeroValue, run_info hinf, hz]
  rcases hxt with ⟨e2, hx⟩ | hx <;>
  simp [Builtin.append_, run_underlying ht, run_underlying hx, run_size hinf, run_info hinf, hlen, hroom, hbz, h48, Question.forced, hfc, hfo, h2, newRow, grownCap]

include hT in
/-- append, whatever there is room for. -/
theorem append_core {t xt e : TypeId} {ei : TI} (ht : P.underlying t = some (.slice e)) (hxt : (∃ e2, P.underlying xt = some (.slice e2)) ∨ P.underlying xt = some .string) (hei : lk e tt = some ei) (hpos : 0 < ei.cells.length) (hb1 : 1 ≤ ei.bytes) (hb : ei.bytes ≤ 2048)
    {h x : Value} {es ds : List D} {vx : Nat → Value} (harr : ArrRel tt M w e ei h es) (hsrc : Src P tt M w ei x ds vx) (hlim : es.length + ds.length ≤ lim) (ty : TypeId) :
    ∃ h' w', (Builtin.append_ #[t, xt] ty #[h, x]).run P w = .ok h' w' ∧ ArrRel tt M w' e ei h' (es ++ ds) ∧ w.grownBy w' (blockOf h) ∧ (blockOf h' = blockOf h ∨ blockOf h' = some w.heap.size) ∧ ∃ a n c, h' = .slice a n c := by
  obtain ⟨inf, hinf, hsz, hby⟩ := (hT e ei hei).info
  obtain ⟨inf', z, hinf', hz, hzs, _, _, _⟩ := (hT e ei hei).zero
  rw [hinf] at hinf'; cases hinf'
  have hmaxLen : maxLen = 9223372036854775807 := by decide
  have hxone : ∀ c ∈ flat vx ds.length ei.cells.length, c.oneCell' = true :=
    flat_mem (fun i hi => (hsrc.each i hi).1) (fun i hi => ((hsrc.each i hi).2).cells_one hT hei)
  -- the new row
  have hnew : ∀ (old : List Value) (vs : Nat → Value), old = flat vs es.length ei.cells.length → (∀ i (hi : i < es.length), (vs i).cells.size = ei.cells.length ∧ Rep tt M ei.kt (vs i) es[i]) →
      ∀ cap, es.length + ds.length ≤ cap → cap ≤ maxLen →
      ArrRel tt M (w.drew.alloc (.cells (old.toArray ++ (flat vx ds.length ei.cells.length).toArray ++ Builtin.zeroCells z.cells (cap - (es.length + ds.length))) e)) e ei (.slice (some ⟨w.heap.size, 0, none⟩) (es.length + ds.length) cap) (es ++ ds) := by
    intro old vs hold heach cap hcap hcm
    refine .inr ⟨w.heap.size, cap, _, ⟨e, rfl⟩, (0, 0), fun i => if i < es.length then vs i else vx (i - es.length), by rw [List.length_append], heap_alloc_new w.drew _, by rw [List.length_append]; exact hcap, hcm, ?_, .inr (Nat.le_refl _), ?_⟩
    · simp only [Array.size_append, List.size_toArray, zeroCells_size, hzs, hold, flat_length, ← Nat.add_mul]
      congr 1; omega
    · intro i hi
      have hea := each_append heach hsrc.each i hi
      refine ⟨hea.1, ?_, hea.2⟩
      intro j u hu
      have hj := (Array.getElem?_eq_some_iff.1 hu).1
      rw [hea.1] at hj
      have hfl := flat_append (es := es) (ds := ds) (vs := vs) (vx := vx) (fun i hi => (heach i hi).1) (fun i hi => (hsrc.each i hi).1) hpos
      have hi' : i < es.length + ds.length := by simpa using hi
      have h3 := flat_get (vs := fun i => if i < es.length then vs i else vx (i - es.length)) hi' hj hea.1
      have hlt : i * ei.cells.length + j < (es.length + ds.length) * ei.cells.length := by
        have : (i + 1) * ei.cells.length ≤ (es.length + ds.length) * ei.cells.length := Nat.mul_le_mul_right _ hi'
        rw [Nat.add_mul] at this; omega
      rw [hfl] at h3
      rw [← Array.getElem?_toList, Array.toList_append, Array.toList_append, hold]
      rw [List.getElem?_append_left (by rw [List.length_append, flat_length, flat_length, ← Nat.add_mul]; exact hlt), h3]
      exact hu
  have hlim2 : (es.length + ds.length) * ei.bytes ≤ 140737488355328 := by
    have : (es.length + ds.length) * ei.bytes ≤ lim * 2048 := Nat.mul_le_mul hlim hb
    simpa [lim] using this
  have hsmall : es.length + ds.length ≤ 68719476736 := hlim
  have hfitL : ∀ cap, cap < es.length + ds.length → ¬ (281474976710656 < Builtin.nextslicecap (es.length + ds.length) cap * inf.bytes) := by
    intro cap hc; rw [hby]; have := growslice_fits hc hlim2; omega
  have hbz : inf.bytes ≠ 0 := by omega
  have hcapok : ∀ old, es.length + ds.length ≤ grownCap w (es.length + ds.length) old e ∧ grownCap w (es.length + ds.length) old e ≤ maxLen := fun old => ⟨grownCap_ge w _ old e, grownCap_le_maxLen w _ old e (by omega)⟩
  have hgr : ∀ (o : Go.Obj) (row : Option Nat), w.grownBy (w.drew.alloc o) row := fun o row => ⟨rfl, rfl, rfl, by simp, fun k hk _ => heap_alloc_old w.drew _ k hk⟩
  have hc0 := hsrc.cells w rfl
  have hcd := hsrc.cells w.drew rfl
  rw [← hsz] at hc0 hcd
  rcases harr with ⟨rfl, rfl⟩ | ⟨b, cap, cur, t0, fr, vs, rfl, hheap, hlen, hcap, hcur, hfr, hall⟩
  · -- nil
    by_cases hm : ds.length = 0
    · have hd : ds = [] := List.eq_nil_of_length_eq_zero hm
      subst hd
      exact ⟨.slice none 0 0, w, run_app_none ht hxt hinf (hsrc.len w) hc0, .inl ⟨rfl, rfl⟩, ⟨rfl, rfl, rfl, Nat.le_refl _, fun _ _ _ => rfl⟩, .inl rfl, none, 0, 0, rfl⟩
    · have hfo : (Builtin.firstCells inf.size 0 (.slice none 0 0)).run P w.drew = .ok #[] w.drew := run_firstCells_none w.drew _ _ _ _
      have hr := run_app_grow (n := 0) (cap := 0) (ty := ty) ht hxt hinf hz hbz (hsrc.len w) hcd hfo (by omega) (by have := hfitL 0 (by simp; omega); simpa using this)
      refine ⟨_, _, hr, ?_, hgr _ _, .inr rfl, _, _, _, rfl⟩
      have := hnew [] (fun _ => undef) (by simp [flat]) (fun i hi => absurd hi (by simp)) (grownCap w ds.length 0 e) (by simpa using (hcapok 0).1) (by simpa using (hcapok 0).2)
      rw [hsz]
      simpa using this
  · have hold : ∀ w', w'.heap = w.heap → (Builtin.firstCells inf.size es.length (.slice (some ⟨b, 0, none⟩) es.length cap)).run P w' = .ok (flat vs es.length ei.cells.length).toArray w' := by
      rw [hsz]
      exact (src_slice (P := P) (tt := tt) (M := M) (w := w) (ad := ⟨b, 0, none⟩) hei rfl (len := es.length) (cap := cap) (vs := vs) rfl (fun i hi => (hall i hi).1) (fun i j u hi hu => by
        simp only [World.cell?, hheap, Nat.zero_add]
        simpa using (hall i hi).2.1 j u hu) (fun i hi => (hall i hi).2.2)).cells
    by_cases hroom : es.length + ds.length ≤ cap
    · have hfit : es.length * ei.cells.length + (flat vx ds.length ei.cells.length).length ≤ cur.size := by
        rw [flat_length, hcur, ← Nat.add_mul]; exact Nat.mul_le_mul_right _ hroom
      have hst := run_storeCells_fr P b (es.length * ei.cells.length) t0 fr (flat vx ds.length ei.cells.length) 0 cur w hheap hfr (by simpa using hfit) hxone
      rw [Nat.add_zero] at hst
      have hr := run_app_room (P := P) (ty := ty) (a := ⟨b, 0, none⟩) (n := es.length) (cap := cap) ht hxt hinf (hsrc.len w) hc0 hroom (by rw [add_spot _ rfl, hsz, Nat.zero_add]; exact hst)
      refine ⟨_, _, hr, ?_, grown_setRow w b _, .inl rfl, _, _, _, rfl⟩
      refine .inr ⟨b, cap, _, t0, fr, fun i => if i < es.length then vs i else vx (i - es.length), by rw [List.length_append], setRow_heap w b cur _ t0 fr hheap, by rw [List.length_append]; exact hroom, hcap, ?_, ?_, ?_⟩
      · simp only [List.size_toArray, List.length_append, List.length_take, List.length_drop, Array.length_toList]; omega
      · simp only [List.size_toArray, List.length_append, List.length_take, List.length_drop, Array.length_toList]; omega
      · intro i hi
        have hea := each_append (fun i hi => ⟨(hall i hi).1, (hall i hi).2.2⟩) hsrc.each i hi
        refine ⟨hea.1, ?_, hea.2⟩
        intro j u hu
        have hj := (Array.getElem?_eq_some_iff.1 hu).1
        rw [hea.1] at hj
        have hi' : i < es.length + ds.length := by simpa using hi
        rw [List.getElem?_toArray, seg_get _ _ _ _ (by rw [Array.length_toList]; exact hfit), flat_length]
        by_cases hlt : i < es.length
        · have h2 : (i + 1) * ei.cells.length ≤ es.length * ei.cells.length := Nat.mul_le_mul_right _ hlt
          rw [Nat.add_mul] at h2
          rw [if_neg (by omega), Array.getElem?_toList]
          simp only [hlt, if_true] at hu
          exact (hall i hlt).2.1 j u hu
        · simp only [hlt, if_false] at hu
          have hz2 := (hsrc.each (i - es.length) (by omega)).1
          have h2 : es.length * ei.cells.length ≤ i * ei.cells.length := Nat.mul_le_mul_right _ (Nat.le_of_not_lt hlt)
          have h3 : (i + 1) * ei.cells.length ≤ (es.length + ds.length) * ei.cells.length := Nat.mul_le_mul_right _ hi'
          rw [Nat.add_mul, Nat.add_mul] at h3
          rw [if_pos ⟨by omega, by omega⟩, show i * ei.cells.length + j - es.length * ei.cells.length = (i - es.length) * ei.cells.length + j by rw [Nat.sub_mul]; omega, flat_get (by omega) hj hz2]
          exact hu
    · have hr := run_app_grow (ty := ty) ht hxt hinf hz hbz (hsrc.len w) hcd (hold w.drew rfl) hroom (hfitL cap (by omega))
      refine ⟨_, _, hr, ?_, hgr _ _, .inr rfl, _, _, _, rfl⟩
      have := hnew (flat vs es.length ei.cells.length) vs rfl (fun i hi => ⟨(hall i hi).1, (hall i hi).2.2⟩) (grownCap w (es.length + ds.length) cap e) (hcapok cap).1 (hcapok cap).2
      rw [hsz] at *
      exact this

end
end Go.Proofs.Ytbinmfenhbpdnaa.DS

namespace Go.Proofs.Ytbinmfenhbpdnaa.DS
open Go.RowKit

section
variable {P : Program} {E : Env} (hT : TTok P E.tt) {draw : Bool} {st : St} {ops : List Oper} {L : List (Nat × Bool)} {a : Act} {w w0 : World} {X : Nat → Prop} {Mx : Mem} {ι : Nat → Value} {M : Mem}
  (hev : ∀ x s, ev st ops L x = some s → SVRel E.tt ι M s (a.eval x))
  (H : HRel E.tt X w0 Mx ι M st.objs w) (hwf : WF st)

include hT hev in
theorem elems_fill {e : TypeId} {ei : TI} (hei : lk e E.tt = some ei) (parts : List (Nat × Operand)) : ∀ (n : Nat) (cells : Array Value) (ds : List D), elemsD st ops L ei.kt n parts = some ds → (n + parts.length) * ei.cells.length ≤ cells.size →
    ds.length = parts.length ∧ ∃ cells', ∃ vs : Nat → Value, Instr.fill (fun i => some (i * ei.cells.length, ei.cells.length)) cells (parts.map fun (i, x) => (i, a.eval x)) = some cells' ∧ cells'.size = cells.size ∧ (∀ k, k < n * ei.cells.length → cells'[k]? = cells[k]?) ∧
      ∀ i (h : i < ds.length), (vs i).cells.size = ei.cells.length ∧ (∀ j u, (vs i).cells[j]? = some u → cells'[(n + i) * ei.cells.length + j]? = some u) ∧ Rep E.tt M ei.kt (vs i) ds[i] := by
  induction parts with
  | nil => intro n cells ds h _; injection h with h; subst h; exact ⟨rfl, cells, fun _ => undef, rfl, rfl, fun _ _ => rfl, fun i h => absurd h (by simp)⟩
  | cons p r ih =>
    obtain ⟨i0, x⟩ := p
    intro n cells ds h hsz
    simp only [elemsD] at h
    replace h := cond_some.1 h
    obtain ⟨hn, h⟩ := h
    have hn := beq_iff.1 hn
    subst hn
    replace h := opt_some.1 h
    obtain ⟨s, hs, h⟩ := h
    replace h := opt_some.1 h
    obtain ⟨d, hd, h⟩ := h
    replace h := opt_some.1 h
    obtain ⟨ds', hds', h⟩ := h
    injection h with h; subst h
    have hrep := svD_rel hd (hev x s hs)
    obtain ⟨k1, k2, k3⟩ := hrep.kt_cells hT hei
    simp only [List.length_cons] at hsz
    have hle : (i0 + 1) * ei.cells.length ≤ cells.size := Nat.le_trans (Nat.mul_le_mul_right _ (by omega)) hsz
    have hle' := hle
    rw [Nat.add_mul, Nat.one_mul] at hle'
    obtain ⟨q1, cells', vs, q2, q3, q4, q5⟩ := ih (i0 + 1) ((a.eval x).cells.zipIdx.foldl (fun cs (c, j) => cs.setIfInBounds (i0 * ei.cells.length + j) c) cells) ds' hds' (by
      rw [← Array.foldl_toList, Array.toList_zipIdx, foldl_set_size]; rw [show i0 + 1 + r.length = i0 + (r.length + 1) by omega]; exact hsz)
    refine ⟨by simp [q1], cells', fun i => match i with | 0 => a.eval x | i + 1 => vs i, ?_, ?_, ?_, ?_⟩
    · simp only [List.map_cons, Instr.fill]
      rw [if_neg (by simp; omega)]
      exact q2
    · rw [q3, ← Array.foldl_toList, Array.toList_zipIdx, foldl_set_size]
    · intro k hk
      rw [q4 k (by rw [Nat.add_mul]; omega), ← Array.foldl_toList, Array.toList_zipIdx, foldl_set_get, if_neg (by omega)]
    · intro i hi
      cases i with
      | zero =>
        refine ⟨k1, ?_, hrep⟩
        intro j u hu
        have hj : j < (a.eval x).cells.size := (Array.getElem?_eq_some_iff.1 hu).1
        rw [Nat.add_zero, q4 _ (by rw [Nat.add_mul]; omega), ← Array.foldl_toList, Array.toList_zipIdx, foldl_set_get, if_pos ⟨by omega, by rw [Array.length_toList]; omega, by omega⟩, Nat.add_zero, Nat.add_sub_cancel_left, Array.getElem?_toList]
        exact hu
      | succ i =>
        obtain ⟨z1, z2, z3⟩ := q5 i (by simpa using hi)
        refine ⟨z1, ?_, by simpa using z3⟩
        intro j u hu
        have := z2 j u hu
        rw [show i0 + (i + 1) = i0 + 1 + i by omega]; exact this

include hT hev H hwf in
theorem buildSlice_sound {o : Oper} {t : TypeId} {n : Nat} {ps : Array (Nat × Operand)} (ho : o.op = .buildSlice t n ps) {c : Bool} {id : Nat} {ob : Obj} {scr : Bool} {v : SV} (h : buildSliceO E st ops L o.dst t n ps.toList = some (.ob c id ob scr v)) : Does P E.tt X w0 Mx ι M a w o st (obSt st id ob scr) v := by
  unfold buildSliceO at h
  replace h := opt_some.1 h
  obtain ⟨ti, ht, h⟩ := h
  have hu := (hT t ti ht).under
  split at h
  · rename_i e hk
    rw [hk] at hu
    replace h := opt_some.1 h
    obtain ⟨ei, hei, h⟩ := h
    replace h := opt_some.1 h
    obtain ⟨ds, hds, h⟩ := h
    replace h := cond_some.1 h
    obtain ⟨hb, h⟩ := h
    simp only [Bool.and_eq_true] at hb
    have hlen := beq_iff.1 hb.1
    have hmax := Nat.le_of_ble_eq_true hb.2.1
    have hpos : 0 < ei.cells.length := Nat.le_of_ble_eq_true hb.2.2
    obtain ⟨hd, hf, rfl, rfl, rfl, rfl⟩ := withObj_st h
    obtain ⟨inf, hinf, hsz, _⟩ := (hT e ei hei).info
    obtain ⟨inf', z, hinf', hz, hzs, _⟩ := (hT e ei hei).zero
    rw [hinf] at hinf'; cases hinf'
    let cells0 : Array Value := (Array.range (n * inf.size)).map ((if n * inf.size = 0 then #[] else z.cells)[· % (if n * inf.size = 0 then #[] else z.cells).size]!)
    have hc0 : cells0.size = n * ei.cells.length := by simp [cells0, hsz]
    have hpl : ds.length = ps.toList.length ∧ _ := elems_fill (M := M) hT hev hei ps.toList 0 cells0 ds hds (by
      have : ds.length = ps.toList.length := by
        have key : ∀ (l : List (Nat × Operand)) (m : Nat) (ds : List D), elemsD st ops L ei.kt m l = some ds → ds.length = l.length := by
          intro l
          induction l with
          | nil => intro m ds h; injection h with h; subst h; rfl
          | cons p r ih =>
            obtain ⟨i, x⟩ := p
            intro m ds h
            simp only [elemsD] at h
            replace h := cond_some.1 h
            replace h := opt_some.1 h.2
            obtain ⟨_, _, h⟩ := h
            replace h := opt_some.1 h
            obtain ⟨_, _, h⟩ := h
            replace h := opt_some.1 h
            obtain ⟨ds', h1, h⟩ := h
            injection h with h; subst h
            simp [ih _ _ h1]
        exact key _ _ _ hds
      rw [hc0, Nat.zero_add, ← this, hlen]; exact Nat.le_refl _)
    obtain ⟨hl2, cells', vs, q2, q3, q4, q5⟩ := hpl
    refine ⟨.slice (some ⟨w.heap.size, 0, none⟩) n n, w.alloc (.cells cells' e), .inl (execOp_value (s := Instr.buildSlice t n (ps.map fun (i, x) => (i, a.eval x))) (by simp [execOp, ho]) ?_), ?_⟩
    · have hle : ¬ n * inf.size > 2 ^ 24 := by rw [hsz]; omega
      have hzr : (if n * inf.size = 0 then pure #[] else do pure (← zeroValue e).cells : Sem (Array Value)).run P w = .ok (if n * inf.size = 0 then #[] else z.cells) w := by
        split
        · simp
        · simp [zeroValue, run_info hinf, hz]
      have e2 : (ps.map fun (i, x) => (i, a.eval x)).toList = ps.toList.map fun (i, x) => (i, a.eval x) := by simp
      rw [hsz] at hle hzr
      simp only [Instr.buildSlice, Sem.run_bind, run_underlying hu.1, Result.andThen_ok, run_size hinf, hsz]
      rw [if_neg hle]
      have hz2 : (zeroValue e).run P w = .ok z w := by simp [zeroValue, run_info hinf, hz]
      by_cases h0 : n * ei.cells.length = 0
      · have e3 : (Array.range (n * ei.cells.length)).map (((#[] : Array Value)[· % (#[] : Array Value).size]!)) = cells0 := by simp only [cells0, hsz, h0]; simp
        simp only [h0, if_true]
        simp only [h0] at e3
        simp only [pure_bind, e2, e3, q2]
        simp [newRow]
      · have e3 : (Array.range (n * ei.cells.length)).map ((z.cells[· % z.cells.size]!)) = cells0 := by simp only [cells0, hsz, if_neg h0]
        simp only [h0, if_false]
        simp only [Sem.run_bind, hz2, Result.andThen_ok, pure_bind, e2, e3, q2]
        simp [newRow]
    · refine new_step (row := none) H hwf hf (grown_alloc w _) (x := .slice (some ⟨w.heap.size, 0, none⟩) n n) (fun b hb => ?_) ?_ (fun i hi => by simp [objRefs0] at hi) ?_ (fun i hi => ?_)
      · simp only [blockOf, Option.some.injEq] at hb; omega
      · refine ⟨ei, hei, hpos, .inr ⟨w.heap.size, n, cells', ⟨e, rfl⟩, (0, 0), vs, by rw [put_same, hlen], heap_alloc_new w _, by omega, ?_, by rw [q3, hc0], .inr (Nat.le_refl _), ?_⟩⟩
        · have : n * 1 ≤ n * ei.cells.length := Nat.mul_le_mul_left _ hpos
          unfold maxLen; omega
        · intro i hi
          obtain ⟨z1, z2, z3⟩ := q5 i hi
          exact ⟨z1, fun j u hu => by have := z2 j u hu; rwa [Nat.zero_add] at this, z3⟩
      · exact ⟨by rw [put_same], _, _, _, put_same _ _ _⟩
      · simpa [refsOf, refs0] using hi
  · cases h

include hT hev H hwf in
theorem makeSlice_sound {o : Oper} {t : TypeId} {x y : Operand} (ho : o.op = .makeSlice t x y) {c : Bool} {id : Nat} {ob : Obj} {scr : Bool} {v : SV} (h : makeSliceO E st ops L o.dst t x y = some (.ob c id ob scr v)) (hc : c = true) : Does P E.tt X w0 Mx ι M a w o st (obSt st id ob scr) v := by
  unfold makeSliceO at h
  replace h := opt_some.1 h
  obtain ⟨ti, ht, h⟩ := h
  replace h := opt_some.1 h
  obtain ⟨n, hn, h⟩ := h
  replace h := opt_some.1 h
  obtain ⟨m, hm, h⟩ := h
  have hu := (hT t ti ht).under
  obtain ⟨kn, hvn⟩ := evInt_sound hev hn
  obtain ⟨km, hvm⟩ := evInt_sound hev hm
  split at h
  · rename_i e hk
    rw [hk] at hu
    replace h := opt_some.1 h
    obtain ⟨ei, hei, h⟩ := h
    split at h
    · cases h
    · cases h
    · rename_i hks hkp
      replace h := cond_some.1 h
      obtain ⟨hb, h⟩ := h
      have hb := Nat.le_of_ble_eq_true hb
      obtain ⟨hd, hf, hcc, rfl, rfl, rfl⟩ := withObj_st h
      rw [hcc] at hc
      simp only [Bool.and_eq_true, decide_eq_true_eq] at hc
      obtain ⟨h0, h1, h2⟩ := hc
      have hks' : ei.kt.single = true := by cases hkk : ei.kt <;> first | rfl | exact absurd hkk (hks _)
      have hc1 := (hT e ei hei).cells_of_single hks'
      have hl1 : ei.cells.length = 1 := by rw [hc1]; rfl
      obtain ⟨inf, hinf, hsz, hby⟩ := (hT e ei hei).info
      obtain ⟨inf', z, hinf', hz, hcr⟩ := zero_rep (M := M) hT hei (fun k hk => by rw [hc1] at hk; simp at hk; subst hk; exact hkp)
      rw [hinf] at hinf'; cases hinf'
      obtain ⟨g1, g2, g3⟩ := hcr
      have hzr : Rep E.tt M ei.kt z (zeroD ei.kt) ∧ z.cells = #[z] := by
        obtain ⟨_, z', hz1, hz2, _, _, hz5, _⟩ := (hT e ei hei).zero
        rw [hinf] at hz1; cases hz1
        rw [hz] at hz2; cases hz2
        have := hz5 hks'
        exact ⟨g3 0 ei.kt z (zeroD ei.kt) (by rw [hc1]; rfl) (by rw [this]; rfl) (by rw [hc1]; rfl), this⟩
      have hlim : (lim : Int) = 68719476736 := rfl
      have hwrap : ∀ q : Int, 0 ≤ q → q ≤ 68719476736 → IntKind.i64.wrap q = q := by
        intro q h1 h2
        unfold IntKind.wrap
        have e1 : (2 : Int) ^ IntKind.i64.bits = 18446744073709551616 := by decide
        have e2 : (2 : Int) ^ (IntKind.i64.bits - 1) = 9223372036854775808 := by decide
        simp only [e1, e2]
        rw [Int.emod_eq_of_lt h1 (by omega)]
        rw [if_neg]
        simp; omega
      have wn := hwrap n h0 (by omega)
      have wm := hwrap m (by omega) (by omega)
      have hbz : ¬ ((inf.bytes : Int) * m > 2 ^ 48) := by
        have : (inf.bytes : Int) * m ≤ 2048 * 68719476736 := Int.mul_le_mul (by rw [hby]; omega) (by omega) (by omega) (by omega)
        have e1 : (2 : Int) ^ 48 = 281474976710656 := by decide
        omega
      have hcellsE : (Array.range (m.toNat * inf.size)).map ((if m.toNat * inf.size = 0 then #[] else z.cells)[· % (if m.toNat * inf.size = 0 then #[] else z.cells).size]!) = Array.replicate m.toNat z := by
        apply Array.ext
        · simp [hsz, hl1]
        · intro i h1 h2
          have h3 : i < m.toNat := by simpa using h2
          have h4 : ¬ m.toNat * inf.size = 0 := by rw [hsz, hl1]; omega
          simp only [Array.getElem_map, Array.getElem_range, Array.getElem_replicate, if_neg h4, hzr.2]
          simp [Nat.mod_one]
      refine ⟨.slice (some ⟨w.heap.size, 0, none⟩) n.toNat m.toNat, w.alloc (.cells (Array.replicate m.toNat z) e), .inl (execOp_value (s := Instr.makeSlice t (a.eval x) (a.eval y)) (by simp [execOp, ho]) ?_), ?_⟩
      · have hzr2 : (if m.toNat * inf.size = 0 then pure #[] else do pure (← zeroValue e).cells : Sem (Array Value)).run P w = .ok (if m.toNat * inf.size = 0 then #[] else z.cells) w := by
          split
          · simp
          · simp [zeroValue, run_info hinf, hz]
        have t1 : (decide (m < 0) || decide ((inf.bytes : Int) * m > 2 ^ 48)) = false := by
          rw [decide_eq_false (show ¬ m < 0 by omega), decide_eq_false hbz]; rfl
        have t2 : ¬ (((decide (m < 0) || decide ((inf.bytes : Int) * m > 2 ^ 48)) || decide (n < 0) || decide (n > m)) = true) := by
          rw [t1, decide_eq_false (show ¬ n < 0 by omega), decide_eq_false (show ¬ n > m by omega)]; decide
        rw [hvn, hvm]
        simp only [Instr.makeSlice, Sem.run_bind, run_underlying hu.1, Result.andThen_ok, asInt, asIntOf, Sem.run_pure, run_info hinf, wn, wm]
        rw [if_neg t2]
        have hz2 : (zeroValue e).run P w = .ok z w := by simp [zeroValue, run_info hinf, hz]
        simp only [Sem.run_pure, Result.andThen_ok, Sem.run_bind, run_askRoom, run_size hinf]
        by_cases h0 : m.toNat * inf.size = 0
        · have hm0 : m.toNat = 0 := by rw [hsz, hl1] at h0; omega
          simp [h0, newRow, hm0]
          congr 2
          apply Array.ext <;> simp
        · rw [if_neg h0]
          rw [if_neg h0] at hcellsE
          simp only [Sem.run_bind, hz2, Result.andThen_ok, pure_bind, hcellsE]
          simp [newRow]
      · refine new_step (row := none) H hwf hf (grown_alloc w _) (x := .slice (some ⟨w.heap.size, 0, none⟩) n.toNat m.toNat) (fun b hb => ?_) ?_ (fun i hi => by simp [objRefs0] at hi) ?_ (fun i hi => ?_)
        · simp only [blockOf, Option.some.injEq] at hb; omega
        · refine ⟨ei, hei, by omega, .inr ⟨w.heap.size, m.toNat, _, ⟨e, rfl⟩, (0, 0), fun _ => z, by rw [put_same, List.length_replicate], heap_alloc_new w _, by rw [List.length_replicate]; omega, by unfold maxLen; omega, by simp [hl1], .inr (Nat.le_refl _), ?_⟩⟩
          intro i hi
          rw [List.length_replicate] at hi
          refine ⟨by rw [hzr.2, hl1]; rfl, ?_, ?_⟩
          · intro j u hu
            rw [hzr.2] at hu
            cases j with
            | zero =>
              simp at hu; subst hu
              rw [hl1, Nat.mul_one, Nat.add_zero, Array.getElem?_replicate, if_pos (by omega)]
            | succ j => simp at hu
          · rw [List.getElem_replicate]; exact hzr.1
        · exact ⟨by rw [put_same], _, _, _, put_same _ _ _⟩
        · simpa [refsOf, refs0] using hi
  · cases h

end
end Go.Proofs.Ytbinmfenhbpdnaa.DS

namespace Go.Proofs.Ytbinmfenhbpdnaa.DS
open Go.RowKit

section
variable {P : Program} {E : Env} (hT : TTok P E.tt) {draw : Bool} {st : St} {ops : List Oper} {L : List (Nat × Bool)} {a : Act} {w w0 : World} {X : Nat → Prop} {Mx : Mem} {ι : Nat → Value} {M : Mem}
  (hev : ∀ x s, ev st ops L x = some s → SVRel E.tt ι M s (a.eval x))
  (H : HRel E.tt X w0 Mx ι M st.objs w) (hwf : WF st)

theorem memN_false {t : Nat} {l : List Nat} (h : memN t l = false) : t ∉ l := fun hi => by rw [memN_iff.2 hi] at h; cases h
theorem refs_scrub {id i : Nat} {s : SV} (h : i ∈ refsOf (scrubS id s)) : i ∈ refsOf s ∧ i ≠ id := by
  unfold scrubS at h
  cases hn : s.names id with
  | true => rw [hn] at h; cases h
  | false =>
    rw [hn] at h
    exact ⟨h, fun e => memN_false hn (e ▸ h)⟩
theorem refs_scrubObj {id i : Nat} {o : Obj} (h : i ∈ objRefs0 (scrubObj id o)) : i ∈ objRefs0 o ∧ i ≠ id := by
  cases o with
  | arr e es => cases h
  | box t c =>
    cases c with
    | whole d => cases h
    | cells l =>
      obtain ⟨s, hs, hi⟩ := mem_refsL.1 h
      obtain ⟨j, hj⟩ := List.getElem?_of_mem hs
      rw [scrubCells_get, Option.map_eq_some_iff] at hj
      obtain ⟨s0, hs0, rfl⟩ := hj
      cases hn : s0.names id with
      | true => rw [hn] at hi; cases hi
      | false =>
        rw [hn] at hi
        exact ⟨mem_refsL.2 ⟨s0, List.mem_of_getElem? hs0, hi⟩, fun e => memN_false hn (e ▸ refs_of_refs0 hi)⟩

include H hwf in
/-- A row gets another handle: what named it is forgotten. -/
theorem own_step {id : Nat} {ob : Obj} (hob : st.objs id = some ob) {h' : Value} {w' : World} (hg : w.grownBy w' (blockOf (ι id))) (hb : blockOf h' = blockOf (ι id) ∨ blockOf h' = some w.heap.size) {e : TypeId} {ei : TI} {es : List D} (hei : lk e E.tt = some ei) (hpos : 0 < ei.cells.length)
    (harr : ArrRel E.tt M w' e ei h' es) (hsl : ∃ a n c, h' = .slice a n c) : Steps1 E.tt X w0 Mx ι M st ({ st with objs := put st.objs id (some (.arr e es)) }.scrub id) w' (.own id) h' := by
  have hobjs : ∀ i, ({ st with objs := put st.objs id (some (.arr e es)) }.scrub id).objs i = if i = id then some (.arr e es) else omap (scrubObj id) (st.objs i) := by
    intro i
    by_cases hi : i = id
    · subst hi; simp [St.scrub, put_same, omap, scrubObj]
    · simp [St.scrub, put_other _ _ _ hi, hi]
  have hin : ∀ i o, st.objs i = some o → ∃ o', ({ st with objs := put st.objs id (some (.arr e es)) }.scrub id).objs i = some o' := by
    intro i o ho
    rw [hobjs]
    split
    · exact ⟨_, rfl⟩
    · exact ⟨scrubObj id o, by rw [ho]; rfl⟩
  have hslot : ∀ t s1, ({ st with objs := put st.objs id (some (.arr e es)) }.scrub id).slots t = some s1 → ∃ s0, st.slots t = some s0 ∧ s1 = scrubS id s0 := by
    intro t s1 hs1
    simp only [St.scrub] at hs1
    cases h0 : st.slots t with
    | none => rw [h0] at hs1; cases hs1
    | some s0 => rw [h0] at hs1; injection hs1 with hs1; exact ⟨s0, rfl, hs1.symm⟩
  refine ⟨put ι id h', ?_, ?_, ?_, rfl, ⟨?_, ?_⟩, ?_⟩
  · refine H.change hg (fun b hb' => ⟨⟨ob, hob⟩, hb'⟩) (fun b hb' => ?_) ?_ ?_
    · rcases hb with hb | hb
      · exact .inl ⟨⟨ob, hob⟩, by rw [← hb]; exact hb'⟩
      · rw [hb] at hb'; injection hb' with hb'; exact .inr (by omega)
    · intro i o' hi ho'
      rw [hobjs, if_neg hi] at ho'
      cases h0 : st.objs i with
      | none => rw [h0] at ho'; cases ho'
      | some o =>
        rw [h0] at ho'; injection ho' with ho'; subst ho'
        exact ⟨o, rfl, fun hr hh => hr.scrub hi hh⟩
    · intro o' ho'
      rw [hobjs, if_pos rfl] at ho'
      injection ho' with ho'; subst ho'
      exact ⟨ei, hei, hpos, by rw [put_same]; exact harr⟩
  · intro t s1 hs1
    obtain ⟨s0, h0, rfl⟩ := hslot t s1 hs1
    exact ⟨s0, h0, fun v0 hv0 => hv0.scrub id h'⟩
  · exact ⟨by rw [put_same], by rw [put_same]; exact hsl⟩
  · intro t s1 hs1 i hi
    obtain ⟨s0, h0, rfl⟩ := hslot t s1 hs1
    obtain ⟨o, ho⟩ := hwf.slots t s0 h0 i (refs_scrub hi).1
    exact hin i o ho
  · intro j o hj i hi
    rw [hobjs] at hj
    by_cases hji : j = id
    · rw [if_pos hji] at hj; injection hj with hj; subst hj; cases hi
    · rw [if_neg hji] at hj
      cases h0 : st.objs j with
      | none => rw [h0] at hj; cases hj
      | some o0 =>
        rw [h0] at hj; injection hj with hj; subst hj
        obtain ⟨o, ho⟩ := hwf.cells j o0 h0 i (refs_scrubObj hi).1
        exact hin i o ho
  · intro i hi
    simp only [refsOf, refs0, List.mem_singleton] at hi
    rw [hi]; exact hin id ob hob

include hT hev H in
theorem src_sound {e : TypeId} {ei : TI} (hei : lk e E.tt = some ei) {x : Operand} {xv : SV} (hx : ev st ops L x = some xv) {xt : TypeId} {xi : TI} (hxi : lk xt E.tt = some xi) {ds : List D} (h : srcD E st e xi.kt xv = some ds) :
    (∃ vx, Src P E.tt M w ei (a.eval x) ds vx) ∧ ((∃ e2, P.underlying xt = some (.slice e2)) ∨ P.underlying xt = some .string) := by
  have hsv := hev x xv hx
  have hxu := (hT xt xi hxi).under
  have htype : ∀ e2, xi.kt = .slice e2 → ((∃ e2, P.underlying xt = some (.slice e2)) ∨ P.underlying xt = some .string) := by
    intro e2 hk; rw [hk] at hxu; exact .inl ⟨e2, hxu.1⟩
  unfold srcD at h
  split at h
  · rename_i e' d
    split at h
    · rename_i e2 hk2
      replace h := cond_some.1 h
      obtain ⟨hb, h⟩ := h
      simp only [Bool.and_eq_true] at hb
      have he := beq_iff.1 hb.1
      subst he
      injection h with h; subst h
      obtain ⟨A, cap, hv, hd, hlc, hcap, hall⟩ := Rep.inv_slice hsv
      refine ⟨?_, htype _ hk2⟩
      rw [hv]
      rcases Nat.eq_zero_or_pos d.toList.length with h0 | h0
      · have hnil : d.toList = [] := List.eq_nil_of_length_eq_zero h0
        rw [hnil]
        exact ⟨_, src_nil rfl A (by cases A; exact .inl rfl; exact .inr ⟨_, rfl⟩)⟩
      · obtain ⟨ei', ad, vs, rfl, hei', hsp, hz, hM, hr⟩ := hall h0
        rw [hei] at hei'; cases hei'
        exact ⟨vs, src_slice hei hsp rfl hz (fun i j u hi hu => H.mem _ _ (hM i j u hi hu)) hr⟩
    · cases h
  · rename_i d
    split at h
    · rename_i hk2
      replace h := opt_some.1 h
      obtain ⟨ei', hei', h⟩ := h
      rw [hei] at hei'; cases hei'
      replace h := cond_some.1 h
      obtain ⟨hk, h⟩ := h
      have hk := KT.eq_iff.1 hk
      injection h with h; subst h
      obtain ⟨s, hv, hd, hsz⟩ := Rep.inv_str hsv
      rw [hk2] at hxu
      refine ⟨?_, .inr hxu.1⟩
      rw [hv, hd]
      exact ⟨_, src_str hT hei hk s⟩
    · cases h
  · split at h
    · rename_i e2 hk2
      injection h with h; subst h
      have hv : a.eval x = .slice none 0 0 := hsv
      exact ⟨⟨_, by rw [hv]; exact src_nil rfl none (.inl rfl)⟩, htype _ hk2⟩
    · cases h
  · rename_i id
    split at h
    · rename_i e2 e' es hk2 hob
      replace h := cond_some.1 h
      obtain ⟨hb, h⟩ := h
      simp only [Bool.and_eq_true] at hb
      have he := beq_iff.1 hb.1
      subst he
      injection h with h; subst h
      refine ⟨?_, htype _ hk2⟩
      obtain ⟨ei', hei', hpos, harr⟩ := H.obj id _ hob
      rw [hei] at hei'; cases hei'
      have hv : a.eval x = ι id := hsv.1
      rw [hv]
      rcases harr with ⟨hι, he0⟩ | ⟨b, cap, cur, tt', fr, vs, hι, hheap, hlen, hcap, hcur, hfr, hall⟩
      · rw [hι, he0]; exact ⟨_, src_nil rfl none (.inl rfl)⟩
      · rw [hι]
        exact ⟨vs, src_slice (ad := ⟨b, 0, none⟩) hei rfl rfl (fun i hi => (hall i hi).1) (fun i j u hi hu => by
          simp only [World.cell?, hheap, Nat.zero_add]
          simpa using (hall i hi).2.1 j u hu) (fun i hi => (hall i hi).2.2)⟩
    · cases h
  · cases h

include hT hev H hwf in
theorem append_sound {o : Oper} {cl : Call} {t xt : TypeId} {x y : Operand} (ho : o.op = .call cl) (hcl : cl.callee = .builtin .append) (hx : cl.args.toList = [x, y]) (ht' : cl.argTypes.toList = [t, xt]) {c : Bool} {id : Nat} {ob : Obj} {scr : Bool} {v : SV}
    (h : appendO E st ops L o.dst t xt x y = some (.ob c id ob scr v)) (hc : c = true) : Does P E.tt X w0 Mx ι M a w o st (obSt st id ob scr) v := by
  unfold appendO at h
  replace h := opt_some.1 h
  obtain ⟨ti, ht, h⟩ := h
  replace h := opt_some.1 h
  obtain ⟨xi, hxi, h⟩ := h
  replace h := opt_some.1 h
  obtain ⟨sv, hsv, h⟩ := h
  replace h := opt_some.1 h
  obtain ⟨xv, hxv, h⟩ := h
  have hu := (hT t ti ht).under
  have hx' : cl.args = #[x, y] := by rw [← Array.toList_inj]; exact hx
  have ht'' : cl.argTypes = #[t, xt] := by rw [← Array.toList_inj]; exact ht'
  have hexec : ∀ h' w', (Builtin.append_ #[t, xt] o.type #[a.eval x, a.eval y]).run P w = .ok h' w' → (execOp a.eval o).run P w = .ok (.value h') w' := by
    intro h' w' hr
    simp [execOp, ho, resolve, hcl, invoke, builtin, hx', ht'', hr]
  split at h
  · rename_i e hk
    rw [hk] at hu
    replace h := opt_some.1 h
    obtain ⟨ei, hei, h⟩ := h
    replace h := cond_some.1 h
    obtain ⟨hb, h⟩ := h
    simp only [Bool.and_eq_true] at hb
    have hb2 := Nat.le_of_ble_eq_true hb.1
    have hb1 := Nat.le_of_ble_eq_true hb.2.1
    have hpos := Nat.le_of_ble_eq_true hb.2.2
    replace h := opt_some.1 h
    obtain ⟨ds, hds, h⟩ := h
    obtain ⟨⟨vx, hsrc⟩, hxt⟩ := src_sound hT hev H hei hxv hxi hds
    have hsr := hev x sv hsv
    have hown : ∀ id e' es, sv = .own id → st.objs id = some (.arr e' es) → e = e' → fitL es.length ds.length = true → Does P E.tt X w0 Mx ι M a w o st (obSt st id (.arr e (es ++ ds)) true) (.own id) := by
      intro id e' es hs hob he hfit
      subst he
      rw [hs] at hsr
      obtain ⟨ei', hei', _, harr⟩ := H.obj id _ hob
      rw [hei] at hei'; cases hei'
      have hv : a.eval x = ι id := hsr.1
      obtain ⟨h', w', hr, hA, hg, hbl, hsl⟩ := append_core (P := P) hT (t := t) (xt := xt) hu.1 hxt hei hpos hb1 hb2 harr hsrc (of_decide_eq_true hfit) o.type
      exact ⟨h', w', .inl (hexec h' w' (by rw [hv]; exact hr)), own_step H hwf hob hg hbl hei hpos hA hsl⟩
    split at h
    · obtain ⟨hd, hf, hcc, rfl, rfl, rfl⟩ := withObj_st h
      rw [hcc] at hc
      have hv : a.eval x = .slice none 0 0 := hsr
      obtain ⟨h', w', hr, hA, hg, hbl, hsl⟩ := append_core (P := P) hT (t := t) (xt := xt) (h := .slice none 0 0) (es := []) hu.1 hxt hei hpos hb1 hb2 (.inl ⟨rfl, rfl⟩) hsrc (of_decide_eq_true hc) o.type
      refine ⟨h', w', .inl (hexec h' w' (by rw [hv]; exact hr)), new_step (row := none) H hwf hf hg (x := h') (fun b hb => ?_) ?_ (fun i hi => by cases hi) ?_ (fun i hi => ?_)⟩
      · rcases hbl with hbl | hbl
        · rw [hbl] at hb; cases hb
        · rw [hbl] at hb; injection hb with hb; omega
      · exact ⟨ei, hei, hpos, by rw [put_same]; exact hA⟩
      · exact ⟨by rw [put_same], by rw [put_same]; exact hsl⟩
      · simpa [refsOf, refs0] using hi
    · rename_i id
      split at h
      · revert h
        generalize (Nat.beq _ _) = bb
        intro h
        cases bb with
        | true => cases h
        | false =>
          simp only [cond_false] at h
          split at h
          · rename_i e' es hob
            replace h := cond_some.1 h
            obtain ⟨he, h⟩ := h
            have he := beq_iff.1 he
            injection h with h; injection h with h1 h2 h3 h4 h5; subst h2 h3 h4 h5
            rw [← h1] at hc
            exact hown id e' es rfl hob he hc
          · cases h
      · split at h
        · rename_i e' es hob
          replace h := cond_some.1 h
          obtain ⟨he, h⟩ := h
          have he := beq_iff.1 he
          injection h with h; injection h with h1 h2 h3 h4 h5; subst h2 h3 h4 h5
          rw [← h1] at hc
          exact hown id e' es rfl hob he hc
        · cases h
    · cases h
  · cases h

include hT hev H hwf in
theorem cut_sound {o : Oper} {t : TypeId} {x : Operand} {lo hi mx : Option Operand} (ho : o.op = .slice t x lo hi mx) {c : Bool} {id : Nat} {ob : Obj} {scr : Bool} {v : SV} (h : sliceO E draw st ops L t x lo hi mx = some (.ob c id ob scr v)) (hc : c = true) : Does P E.tt X w0 Mx ι M a w o st (obSt st id ob scr) v := by
  unfold sliceO at h
  split at h
  · cases h
  · replace h := opt_some.1 h
    obtain ⟨ti, ht, h⟩ := h
    replace h := opt_some.1 h
    obtain ⟨s1, hs1, h⟩ := h
    replace h := opt_some.1 h
    obtain ⟨l, hl, h⟩ := h
    replace h := opt_some.1 h
    obtain ⟨hh, hhi, h⟩ := h
    have hu := (hT t ti ht).under
    have hsv := hev x s1 hs1
    have hlr := optInt_sound hev hl
    have hhr := optInt_sound hev hhi
    split at h
    · cases h
    · replace h := (cond_some.1 h).2
      cases h
    · rename_i e id hk
      rw [hk] at hu
      cases draw with
      | true => cases h
      | false =>
        simp only [cond_false] at h
        split at h
        · rename_i e' es hob
          replace h := cond_some.1 h
          obtain ⟨he, h⟩ := h
          have he := beq_iff.1 he
          subst he
          injection h with h; injection h with h1 h2 h3 h4 h5; subst h2 h3 h4 h5
          rw [← h1] at hc
          obtain ⟨ei, hei, hpos, harr⟩ := H.obj id _ hob
          obtain ⟨inf, hinf, hsz, _⟩ := (hT e ei hei).info
          have hv : a.eval x = ι id := hsv.1
          obtain ⟨c1, c2, c3⟩ := cutL_length es none hh hc
          have hexec : execOp a.eval o = (do pure (.value (← Instr.sliceAt t (a.eval x) (lo.map a.eval) (hi.map a.eval) none))) := by simp [execOp, ho]
          have hrun : ∀ A n cap, ι id = .slice A n cap → n = es.length → n ≤ cap → (Instr.sliceAt t (a.eval x) (lo.map a.eval) (hi.map a.eval) none).run P w = .ok (.slice A (cutL es none hh).length cap) w := by
            intro A n cap hι hn hnc
            subst hn
            have hb := bounds_run (P := P) (w := w) true es.length cap hnc hlr hhr hc
            rw [hv, hι]
            simp only [Instr.sliceAt, Instr.slice, Sem.run_bind, run_underlying hu.1, Result.andThen_ok, hb, run_size hinf, hsz, Sem.run_pure]
            rw [c1]
            simp only [Option.getD_none, Int.toNat_zero, Nat.sub_zero, Nat.zero_mul, if_true]
            congr 2
            by_cases hc0 : cap = 0
            · simp [hc0]
            · rw [if_neg hc0]
              cases A with
              | none => rfl
              | some ad => simp [Addr.add]
          rcases harr with ⟨hι, he0⟩ | ⟨b, cap, cur, tt', fr, vs, hι, hheap, hlen, hcap, hcur, hfr, hall⟩
          · subst he0
            have hnil : cutL ([] : List D) none hh = [] := by cases hh <;> simp [cutL]
            refine ⟨_, w, .inl (execOp_value hexec (hrun none 0 0 hι rfl (Nat.le_refl _))), ?_⟩
            rw [hnil]
            exact own_step H hwf hob ⟨rfl, rfl, rfl, Nat.le_refl _, fun _ _ _ => rfl⟩ (.inl (by rw [hι]; rfl)) hei hpos (.inl ⟨rfl, rfl⟩) ⟨_, _, _, rfl⟩
          · refine ⟨_, w, .inl (execOp_value hexec (hrun _ _ cap hι rfl hlen)), ?_⟩
            refine own_step H hwf hob ⟨rfl, rfl, rfl, Nat.le_refl _, fun _ _ _ => rfl⟩ (.inl (by rw [hι]; rfl)) hei hpos (.inr ⟨b, cap, cur, tt', fr, vs, rfl, hheap, by omega, hcap, hcur, hfr, ?_⟩) ⟨_, _, _, rfl⟩
            intro i hi
            have hlt : i < es.length := by omega
            have hg := cutL_get es none hh hc i
            rw [if_pos hi, List.getElem?_eq_getElem hi] at hg
            simp only [Option.getD_none, Int.toNat_zero, Nat.zero_add] at hg
            rw [List.getElem?_eq_getElem hlt] at hg
            injection hg with hg
            rw [hg]
            exact hall i hlt
        · cases h
    · cases h

include hT hev H hwf in
theorem bytes_sound {o : Oper} {t t' : TypeId} {x : Operand} (ho : o.op = .convert t t' x) {c : Bool} {id : Nat} {ob : Obj} {scr : Bool} {v : SV} (h : convertO E st ops L o.dst t t' x = some (.ob c id ob scr v)) : Does P E.tt X w0 Mx ι M a w o st (obSt st id ob scr) v := by
  unfold convertO at h
  replace h := opt_some.1 h
  obtain ⟨si, hsi, h⟩ := h
  replace h := opt_some.1 h
  obtain ⟨ti, hti, h⟩ := h
  replace h := opt_some.1 h
  obtain ⟨s1, hs1, h⟩ := h
  have hsu := (hT t si hsi).under
  have htu := (hT t' ti hti).under
  have hsv := hev x s1 hs1
  split at h
  · cases h
  · cases h
  · replace h := opt_some.1 (cond_some.1 h).2
    obtain ⟨_, _, h⟩ := h
    replace h := (cond_some.1 h).2
    cases h
  · split at h
    · replace h := opt_some.1 (cond_some.1 h).2
      obtain ⟨_, _, h⟩ := h
      replace h := (cond_some.1 h).2
      cases h
    · cases h
  · replace h := opt_some.1 h
    obtain ⟨_, _, h⟩ := h
    replace h := (cond_some.1 h).2
    cases h
  · rename_i e d hk1 hk2
    rw [hk1] at hsu; rw [hk2] at htu
    replace h := opt_some.1 h
    obtain ⟨ei, hei, h⟩ := h
    replace h := cond_some.1 h
    obtain ⟨hku, h⟩ := h
    have hku := KT.eq_iff.1 hku
    obtain ⟨hd, hf, hcc, rfl, rfl, rfl⟩ := withObj_st h
    obtain ⟨s, hv, hd2, hsz⟩ := Rep.inv_str hsv
    subst hd2
    have heu := (hT e ei hei).under
    rw [hku] at heu
    have hl1 : ei.cells.length = 1 := by rw [heu.2]; rfl
    let cap := grownCap w s.size 0 e
    have hcap1 : s.size ≤ cap := grownCap_ge w _ _ _
    have hcap2 : cap ≤ maxLen := grownCap_le_maxLen w _ _ _ hsz
    obtain ⟨cells, hcells⟩ : ∃ c : Array Value, c = s.data.map (fun b => Value.int .u8 b.toNat) ++ Array.replicate (cap - s.size) (.int .u8 0) := ⟨_, rfl⟩
    have hcs : cells.size = cap := by
      have : s.data.size = s.size := rfl
      simp only [hcells, Array.size_append, Array.size_map, Array.size_replicate]; omega
    let w' : World := (w.drew.alloc (.cells cells e)).freeze ⟨w.heap.size, cap, none⟩ 1
    have hw'new : w'.heap[w.heap.size]? = some (.cells cells e (cap, cap + 1)) := by
      have h1 := heap_alloc_new w.drew (.cells cells e)
      have h2 : w.heap.size < (w.drew.alloc (.cells cells e)).heap.size := (Array.getElem?_eq_some_iff.1 h1).1
      simp only [w', World.freeze, if_neg (show ¬ (1 = 0) by decide), Array.getElem?_modify, if_true]
      have h3 : (w.drew.alloc (.cells cells e)).heap[w.heap.size]? = some (.cells cells e (0, 0)) := h1
      rw [h3]
      rfl
    have hw'old : ∀ k, k < w.heap.size → w'.heap[k]? = w.heap[k]? := by
      intro k hk
      simp only [w', World.freeze, if_neg (show ¬ (1 = 0) by decide), Array.getElem?_modify]
      rw [if_neg (by show ¬ w.heap.size = k; omega)]
      exact heap_alloc_old w.drew _ k hk
    have hg : w.grownBy w' none := ⟨rfl, rfl, rfl, by
      have := (Array.getElem?_eq_some_iff.1 hw'new).1; omega, fun k hk _ => hw'old k hk⟩
    refine ⟨.slice (some ⟨w.heap.size, 0, none⟩) s.size cap, w', .inl (execOp_value (s := convert t t' (a.eval x)) (by simp [execOp, ho]) ?_), ?_⟩
    · rw [hv]
      have hsh : (w.drew.alloc (.cells cells e)).shape? w.heap.size = some (e, cap) := by
        have h1 : (w.drew.alloc (.cells cells e)).heap[w.heap.size]? = some (.cells cells e (0, 0)) := heap_alloc_new w.drew _
        simp only [World.shape?, h1, hcs]
      simp only [convert, Sem.run_bind, run_underlying hsu.1, run_underlying htu.1, Result.andThen_ok, run_underlying heu.1, Conv.stringToBytes, run_choose, Question.forced, Bool.false_eq_true, if_false]
      have hc2 : (Question.appendCap s.size 0 e).cut (w.tape w.drawn (.appendCap s.size 0 e)) = cap := rfl
      have hw2 : ({ w with drawn := w.drawn + 1 } : World) = w.drew := rfl
      simp only [hc2, hw2, newRow, Sem.run_bind, run_newObj, Result.andThen_ok, Sem.run_pure, markStringish, run_shape]
      have hw3 : ({ w.drew with heap := w.drew.heap.push (.cells cells e) } : World) = w.drew.alloc (.cells cells e) := rfl
      have hd0 : w.drew.heap.size = w.heap.size := rfl
      rw [← hcells]
      simp only [hw3, hd0, hsh, Result.andThen_ok, Sem.run_bind, run_freeze]
      rfl
    · refine new_step (row := none) H hwf hf hg (x := .slice (some ⟨w.heap.size, 0, none⟩) s.size cap) (fun b hb => ?_) ?_ (fun i hi => by cases hi) ?_ (fun i hi => ?_)
      · simp only [blockOf, Option.some.injEq] at hb; omega
      · have hlen : (bytesD s.data.toList).length = s.size := by simp [bytesD]
        refine ⟨ei, hei, by omega, .inr ⟨w.heap.size, cap, cells, ⟨e, rfl⟩, (cap, cap + 1), fun i => .int .u8 ((s.data.toList.getD i 0).toNat : Int), by rw [put_same]; simp only [D.toStr, hlen], hw'new, by simp only [D.toStr]; omega, hcap2, by rw [hcs, hl1]; omega, .inl (by simp only; omega), ?_⟩⟩
        intro i hi
        have hi' : i < s.size := by simp only [D.toStr] at hi; omega
        have hil : i < s.data.toList.length := by rw [Array.length_toList]; exact hi'
        refine ⟨by rw [hl1]; rfl, ?_, ?_⟩
        · intro j u hu
          cases j with
          | zero =>
            change some (Value.int .u8 ((s.data.toList.getD i 0).toNat : Int)) = some u at hu
            rw [hl1, Nat.mul_one, Nat.add_zero, ← hu]
            rw [hcells, Array.getElem?_append_left (by simp; exact hi')]
            have hx : s.data[i]? = some (s.data[i]'hi') := Array.getElem?_eq_getElem hi'
            simp [List.getD_eq_getElem?_getD, hx]
          | succ j =>
            have := (Array.getElem?_eq_some_iff.1 hu).1
            simp [Value.cells] at this
        · rw [hku]
          have e2 : (bytesD s.data.toList)[i]'(by simp [bytesD]; exact hi') = .int ((s.data.toList.getD i 0).toNat : Int) := by
            have hx : s.data[i]? = some (s.data[i]'hi') := Array.getElem?_eq_getElem hi'
            simp [bytesD, List.getD_eq_getElem?_getD, hx]
          simp only [D.toStr]
          rw [e2]
          exact byte_rep _
      · exact ⟨by rw [put_same], _, _, _, put_same _ _ _⟩
      · simpa [refsOf, refs0] using hi
  · cases h

theorem intOp_st {op : BinOp} {k : IntKind} {x y : Int} {c : Bool} {id : Nat} {ob : Obj} {scr : Bool} {v : SV} (h : intOp op k x y = some (.ob c id ob scr v)) : False := by
  unfold intOp at h; cases op <;> cases h
theorem shiftOp_st {op : BinOp} {k : IntKind} {x y : Int} {c : Bool} {id : Nat} {ob : Obj} {scr : Bool} {v : SV} (h : shiftOp op k x y = some (.ob c id ob scr v)) : False := by
  unfold shiftOp at h; cases op <;> cases h
theorem strOp_st {op : BinOp} {x y : List UInt8} {c : Bool} {id : Nat} {ob : Obj} {scr : Bool} {v : SV} (h : strOp op x y = some (.ob c id ob scr v)) : False := by
  unfold strOp at h; cases op <;> cases h
theorem boolOp_st {op : BinOp} {x y : Bool} {c : Bool} {id : Nat} {ob : Obj} {scr : Bool} {v : SV} (h : boolOp op x y = some (.ob c id ob scr v)) : False := by
  unfold boolOp at h; cases op <;> cases h

include hT hev H hwf in
/-- Every operation that changes the state does in memory what it says. -/
theorem st_sound {o : Oper} {c : Bool} {id : Nat} {ob : Obj} {scr : Bool} {v : SV} (h : opO E draw st ops L o = some (.ob c id ob scr v)) (hc : c = true) : Does P E.tt X w0 Mx ι M a w o st (obSt st id ob scr) v := by
  unfold opO at h
  split at h
  case h_1 x hx =>
    exfalso
    unfold moveO at h
    split at h
    · replace h := opt_some.1 h
      obtain ⟨_, _, h⟩ := h
      split at h
      · replace h := opt_some.1 h
        obtain ⟨_, _, h⟩ := h
        cases h
      · cases h
    · replace h := opt_some.1 h
      obtain ⟨_, _, h⟩ := h
      cases h
  case h_2 x hx =>
    exfalso
    unfold moveO at h
    split at h
    · replace h := opt_some.1 h
      obtain ⟨_, _, h⟩ := h
      split at h
      · replace h := opt_some.1 h
        obtain ⟨_, _, h⟩ := h
        cases h
      · cases h
    · replace h := opt_some.1 h
      obtain ⟨_, _, h⟩ := h
      cases h
  case h_3 x y z hx =>
    exfalso
    unfold pickO at h
    replace h := opt_some.1 h
    obtain ⟨tc, _, h⟩ := h
    replace h := opt_some.1 h
    obtain ⟨sc, _, h⟩ := h
    split at h
    · split at h
      · replace h := (cond_some.1 h).2
        split at h
        · revert h
          generalize (sameTmp tc y) = b1
          generalize (sameTmp tc z) = b2
          intro h
          cases b1 <;> cases b2 <;> cases h
        · cases h
      · cases h
    · cases h
  case h_4 t hx => exact alloc_sound hT H hwf hx h
  case h_5 t x hx => exact box_sound hT hev H hwf hx h
  case h_6 t ps hx =>
    obtain ⟨_, h⟩ := buildO_sv h
    cases h
  case h_7 t n ps hx => exact buildSlice_sound hT hev H hwf hx h
  case h_8 t x hx =>
    exfalso
    unfold loadO at h
    replace h := opt_some.1 h
    obtain ⟨_, _, h⟩ := h
    replace h := opt_some.1 h
    obtain ⟨_, _, h⟩ := h
    split at h
    · replace h := (cond_some.1 h).2; cases h
    · replace h := (cond_some.1 h).2
      split at h
      · replace h := (cond_some.1 h).2
        replace h := opt_some.1 h
        obtain ⟨_, _, h⟩ := h
        replace h := opt_some.1 h
        obtain ⟨_, _, h⟩ := h
        cases h
      · cases h
    · replace h := (cond_some.1 h).2
      split at h
      · replace h := (cond_some.1 h).2
        replace h := opt_some.1 h
        obtain ⟨_, _, h⟩ := h
        revert h
        generalize (Nat.beq _ _ && _) = b1
        intro h
        cases b1 <;> cases h
      · cases h
    · cases h
  case h_9 t x y hx => exact store_sound hT hev H hwf hx h
  case h_10 op t x y yt hx =>
    exfalso
    replace h := opt_some.1 h
    obtain ⟨s1, hs1, h⟩ := h
    replace h := opt_some.1 h
    obtain ⟨s2, hs2, h⟩ := h
    unfold binO at h
    split at h
    · revert h
      generalize (isShift op) = b1
      intro h
      cases b1 with
      | true => exact shiftOp_st h
      | false => exact intOp_st (cond_some.1 h).2
    · exact strOp_st h
    · split at h
      · exact boolOp_st (cond_some.1 h).2
      · cases h
    · split at h
      · replace h := (cond_some.1 h).2
        unfold aggOp at h
        cases op <;> cases h
      · cases h
    · cases h
  case h_11 op t x hx =>
    exfalso
    replace h := opt_some.1 h
    obtain ⟨s1, hs1, h⟩ := h
    unfold unO at h
    split at h <;> cases h
  case h_12 s t x hx => exact bytes_sound hT hev H hwf hx h
  case h_13 t x y hx => exact makeSlice_sound hT hev H hwf hx h hc
  case h_14 t x lo hi mx hx => exact cut_sound hT hev H hwf hx h hc
  case h_15 t x f hx =>
    exfalso
    unfold fieldAddrO at h
    replace h := opt_some.1 h
    obtain ⟨_, _, h⟩ := h
    replace h := opt_some.1 h
    obtain ⟨_, _, h⟩ := h
    replace h := opt_some.1 h
    obtain ⟨_, _, h⟩ := h
    replace h := (cond_some.1 h).2
    replace h := opt_some.1 h
    obtain ⟨_, _, h⟩ := h
    split at h
    · replace h := (cond_some.1 h).2; cases h
    · replace h := (cond_some.1 h).2; cases h
    · replace h := (cond_some.1 h).2; cases h
    · cases h
  case h_16 t x y hx =>
    exfalso
    unfold indexAddrO at h
    replace h := opt_some.1 h
    obtain ⟨_, _, h⟩ := h
    replace h := opt_some.1 h
    obtain ⟨_, _, h⟩ := h
    replace h := opt_some.1 h
    obtain ⟨_, _, h⟩ := h
    split at h
    · replace h := (cond_some.1 h).2
      replace h := opt_some.1 h
      obtain ⟨_, _, h⟩ := h
      cases h
    · split at h
      · replace h := (cond_some.1 h).2
        replace h := opt_some.1 h
        obtain ⟨_, _, h⟩ := h
        cases h
      · cases h
    · cases h
  case h_17 t x y hx =>
    exfalso
    unfold indexO at h
    replace h := opt_some.1 h
    obtain ⟨_, _, h⟩ := h
    replace h := opt_some.1 h
    obtain ⟨_, _, h⟩ := h
    replace h := opt_some.1 h
    obtain ⟨_, _, h⟩ := h
    split at h <;> cases h
  case h_18 x hx =>
    exfalso
    replace h := opt_some.1 h
    obtain ⟨_, _, h⟩ := h
    split at h <;> cases h
  case h_19 x i hx =>
    exfalso
    replace h := opt_some.1 h
    obtain ⟨_, _, h⟩ := h
    split at h
    · split at h <;> cases h
    · cases h
  case h_20 cl hx =>
    unfold callO at h
    split at h
    · exfalso
      replace h := opt_some.1 h
      obtain ⟨sg, _, h⟩ := h
      rcases callF_out h with ⟨_, _, h⟩ | ⟨_, _, _, h⟩ <;> cases h
    · exfalso
      split at h
      · unfold lenO at h
        replace h := opt_some.1 h
        obtain ⟨_, _, h⟩ := h
        replace h := opt_some.1 h
        obtain ⟨_, _, h⟩ := h
        split at h
        · cases h
        · cases h
        · cases h
        · split at h <;> cases h
        · cases h
      · cases h
    · rename_i hcl
      split at h
      · rename_i x y t xt h1 h2
        exact append_sound hT hev H hwf hx hcl h1 h2 h hc
      · cases h
    · exfalso
      unfold mmO at h
      split at h
      · cases h
      · replace h := opt_some.1 h
        obtain ⟨_, _, h⟩ := h
        split at h
        · replace h := opt_some.1 h
          obtain ⟨_, _, h⟩ := h
          cases h
        · cases h
    · exfalso
      unfold mmO at h
      split at h
      · cases h
      · replace h := opt_some.1 h
        obtain ⟨_, _, h⟩ := h
        split at h
        · replace h := opt_some.1 h
          obtain ⟨_, _, h⟩ := h
          cases h
        · cases h
    · obtain ⟨_, _, _, _, _, _, _, _, _, h⟩ := clo_out h
      cases h
    · cases h
  case h_21 f fs cs hx =>
    obtain ⟨_, _, _, _, _, _, _, _, h⟩ := mkf_out h
    cases h
  case h_22 t x f hx => exact (fieldO_ob h).elim
  case h_23 => cases h

end
end Go.Proofs.Ytbinmfenhbpdnaa.DS

namespace Go.Proofs.Ytbinmfenhbpdnaa.DS

def dstIs (o : Oper) (t : Nat) : Bool := match o.dst with | some d => Nat.beq d t | none => false
def dstIn (o : Oper) (l : List Nat) : Bool := match o.dst with | some d => memN d l | none => false
def indep (ops : List Oper) (i j : Nat) : Bool :=
  match nthOp ops i, nthOp ops j with
  | some oi, some oj => (!(opEff oi).all && !(opEff oj).all) && (!dstIn oi (usesOf ops j) && (!dstIn oj (usesOf ops i) && (match oi.dst, oj.dst with | some d, some d' => !Nat.beq d d' | _, _ => true)))
  | _, _ => false
def allBelow (n : Nat) (p : Nat → Bool) : Bool := match n with | 0 => true | n + 1 => cond (p n) (allBelow n p) false
theorem allBelow_spec {n : Nat} {p : Nat → Bool} (h : allBelow n p = true) : ∀ i, i < n → p i = true := by
  induction n with
  | zero => intro i hi; omega
  | succ n ih =>
    simp only [allBelow] at h
    cases hp : p n with
    | false => rw [hp] at h; cases h
    | true =>
      rw [hp] at h
      intro i hi
      by_cases e : i = n
      · rw [e]; exact hp
      · exact ih h i (by omega)
def pairsOk (ops : List Oper) (an : List (List Nat)) : Bool := allBelow ops.length fun j => allBelow j fun i => memN i (an.getD j []) || indep ops i j
def edgesOk (ops : List Oper) : Bool := allBelow ops.length fun i => match nthOp ops i with
  | some o => (anyEdges o).all fun e => Nat.ble (e + 1) i
  | none => false
def guardsOk (ops : List Oper) (draw : Bool) : Bool := allBelow ops.length fun i => match nthOp ops i with
  | some o => match o.guard with
    | none => true
    | some (j, _) => Nat.ble (j + 1) i && ((match nthOp ops j with | some oj => oj.dst.isSome | none => false) && (!draw || memN j (anyEdges o)))
  | none => false
def dstsOf : List Oper → List Nat
  | [] => []
  | o :: r => match o.dst with | some d => d :: dstsOf r | none => dstsOf r
def okRegion (ops : List Oper) (draw : Bool) : Bool :=
  nodupN (dstsOf ops) && (guardsOk ops draw && (!draw || (edgesOk ops && pairsOk ops (ancs ops))))
def okCode : Code → Bool
  | .region _ ops draw => okRegion ops.toList draw
  | .seq a b => okCode a && okCode b
  | .cond _ a b => okCode a && okCode b
  | .block _ c => okCode c
  | .loop c => okCode c
  | .skip | .exit _ | .ret => true
  | _ => false

/-- The boxes among the parameters; code that writes none of their slots. -/
def boxPs : List PM → Nat → List Nat
  | [], _ => []
  | .box _ _ :: r, i => i :: boxPs r (i + 1)
  | _ :: r, i => boxPs r (i + 1)
def noDstL (pins : List Nat) : List Oper → Bool
  | [] => true
  | o :: r => (match o.dst with | some t => !memN t pins | none => true) && noDstL pins r
def noDst (pins : List Nat) : Code → Bool
  | .region _ ops _ => noDstL pins ops.toList
  | .seq a b => noDst pins a && noDst pins b
  | .cond _ a b => noDst pins a && noDst pins b
  | .block _ c => noDst pins c
  | .loop c => noDst pins c
  | _ => true
theorem noDstL_spec {pins : List Nat} : ∀ {ops : List Oper}, noDstL pins ops = true → ∀ i o, nthOp ops i = some o → ∀ t, o.dst = some t → t ∉ pins := by
  intro ops
  induction ops with
  | nil => intro _ i o h; cases i <;> cases h
  | cons x r ih =>
    intro h i o hi t ht
    simp only [noDstL, Bool.and_eq_true] at h
    cases i with
    | zero =>
      injection hi with hi; subst hi
      have h1 := h.1
      rw [ht] at h1
      simp only [Bool.not_eq_true'] at h1
      intro hm
      rw [memN_iff.2 hm] at h1; cases h1
    | succ i => exact ih h.2 i o hi t ht

section
variable {E : Env} {draw : Bool} {st st' : St} {ops : List Oper} {L : List (Nat × Bool)}

/-- What an operation does hangs on its operands' slots, and on what these name. -/
theorem ev_congr {x : Operand} (h : ∀ t, x = .tmp t → st'.slots t = st.slots t) : ev st' ops L x = ev st ops L x := by
  cases x with
  | tmp t => simp only [ev, h t rfl]
  | _ => rfl
theorem evPick_congr {x : Operand} {c : Nat} {b : Bool} (h : ∀ t, x = .tmp t → st'.slots t = st.slots t) : evPick st' ops L c b x = evPick st ops L c b x := by
  cases x with
  | tmp t => simp only [evPick, h t rfl]
  | _ => rfl
theorem evInt_congr {x : Operand} (h : ∀ t, x = .tmp t → st'.slots t = st.slots t) : evInt st' ops L x = evInt st ops L x := by
  unfold evInt; rw [ev_congr h]
theorem optInt_congr {x : Option Operand} (h : ∀ t, x = some (.tmp t) → st'.slots t = st.slots t) : optInt st' ops L x = optInt st ops L x := by
  cases x with
  | none => rfl
  | some x => simp only [optInt]; rw [evInt_congr (fun t e => h t (by rw [e]))]
theorem ev_refs {x : Operand} {s : SV} (h : ev st ops L x = some s) {i : Nat} (hi : i ∈ refsOf s) : ∃ t, x = .tmp t ∧ st.slots t = some s := by
  cases x with
  | tmp t => exact ⟨t, rfl, (cond_some.1 h).2⟩
  | const v =>
    exfalso
    simp only [ev] at h
    unfold constSV at h
    split at h
    · injection h with h; subst h; cases hi
    · have := (cond_some.1 h).2; injection this with this; subst this; cases hi
    · have := (cond_some.1 h).2; injection this with this; subst this; cases hi
    · injection h with h; subst h; cases hi
    · injection h with h; subst h; cases hi
    · cases h
  | _ => cases h
theorem fill_congr {fields : List (Nat × TypeId)} (ps : List (Nat × Operand)) (h : ∀ p ∈ ps, ∀ t, p.2 = .tmp t → st'.slots t = st.slots t) : ∀ cs, fillD E st' ops L fields ps cs = fillD E st ops L fields ps cs := by
  induction ps with
  | nil => intro cs; rfl
  | cons p r ih =>
    obtain ⟨i, x⟩ := p
    intro cs
    simp only [fillD]
    rw [ev_congr (h (i, x) List.mem_cons_self)]
    have ih' := ih (fun p hp => h p (List.mem_cons_of_mem _ hp))
    simp only [ih']
theorem fillS_congr {fields : List (Nat × TypeId)} (ps : List (Nat × Operand)) (h : ∀ p ∈ ps, ∀ t, p.2 = .tmp t → st'.slots t = st.slots t) : ∀ cs, fillS E st' ops L fields ps cs = fillS E st ops L fields ps cs := by
  induction ps with
  | nil => intro cs; rfl
  | cons p r ih =>
    obtain ⟨i, x⟩ := p
    intro cs
    simp only [fillS]
    rw [ev_congr (h (i, x) List.mem_cons_self)]
    have ih' := ih (fun p hp => h p (List.mem_cons_of_mem _ hp))
    simp only [ih']
theorem elems_congr {k : KT} (ps : List (Nat × Operand)) (h : ∀ p ∈ ps, ∀ t, p.2 = .tmp t → st'.slots t = st.slots t) : ∀ n, elemsD st' ops L k n ps = elemsD st ops L k n ps := by
  induction ps with
  | nil => intro n; rfl
  | cons p r ih =>
    obtain ⟨i, x⟩ := p
    intro n
    simp only [elemsD]
    rw [ev_congr (h (i, x) List.mem_cons_self)]
    have ih' := ih (fun p hp => h p (List.mem_cons_of_mem _ hp))
    simp only [ih']
theorem mmFold_congr {isMax : Bool} {k : IntKind} (xs : List Operand) (h : ∀ x ∈ xs, ∀ t, x = .tmp t → st'.slots t = st.slots t) : ∀ n, mmFold st' ops L isMax k xs n = mmFold st ops L isMax k xs n := by
  induction xs with
  | nil => intro n; rfl
  | cons x r ih =>
    intro n
    simp only [mmFold]
    rw [ev_congr (h x List.mem_cons_self)]
    have ih' := ih (fun p hp => h p (List.mem_cons_of_mem _ hp))
    simp only [ih']
theorem argD_congr {b : Bool} {k : KT} {s : SV} (h : ∀ i, i ∈ refsOf s → st'.objs i = st.objs i) : argD st' b k s = argD st b k s := by
  cases s with
  | own i => simp only [argD, h i (by simp [refsOf, refs0])]
  | _ => rfl
theorem args_congr {b : Bool} (ps : List PM) : ∀ (xs : List Operand), (∀ x ∈ xs, ∀ t, x = .tmp t → st'.slots t = st.slots t) → (∀ x ∈ xs, ∀ s, ev st ops L x = some s → ∀ i, i ∈ refsOf s → st'.objs i = st.objs i) → argsO st' ops L b ps xs = argsO st ops L b ps xs := by
  induction ps with
  | nil => intro xs h _; cases xs <;> rfl
  | cons p r ih =>
    intro xs h ho
    cases xs with
    | nil => cases p <;> rfl
    | cons x xs =>
      cases p with
      | val k =>
        simp only [argsO]
        rw [ev_congr (h x List.mem_cons_self), ih xs (fun y hy => h y (List.mem_cons_of_mem _ hy)) (fun y hy => ho y (List.mem_cons_of_mem _ hy))]
        cases hs : ev st ops L x with
        | none => rfl
        | some s =>
          show opt (argD st' b k s) _ = opt (argD st b k s) _
          rw [argD_congr (ho x List.mem_cons_self s hs)]
      | _ => rfl

theorem opt_val {α β : Type} (x : α) (f : α → Option β) : opt (some x) f = f x := rfl
theorem withObj_congr {dst : Option Nat} {ob : Obj} {vv : Nat → SV} {c : Bool} (hf : ∀ d, dst = some d → fresh st' d = fresh st d) : withObj st' dst ob vv c = withObj st dst ob vv c := by
  cases dst with
  | none => rfl
  | some d => simp only [withObj, hf d rfl]

theorem opdsUses_mem {x : Operand} {l : List Operand} {t : Nat} (hx : x ∈ l) (ht : x = .tmp t) : t ∈ opdsUses l := by
  induction l with
  | nil => cases hx
  | cons y r ih =>
    simp only [opdsUses, List.mem_append]
    rcases List.mem_cons.1 hx with rfl | hx
    · left; rw [ht]; simp [opdUses]
    · right; exact ih hx

theorem cellArgs_plain {id p : Nat} : ∀ (cs : List CK) (c : Nat) (ss : List SV), plainC cs = true → cellArgs E st' id p c cs ss = cellArgs E st id p c cs ss := by
  intro cs
  induction cs with
  | nil => intro c ss _; cases ss <;> rfl
  | cons k r ih =>
    intro c ss h
    cases ss with
    | nil => cases k <;> rfl
    | cons s ss =>
      cases k with
      | val k => simp only [cellArgs, ih (c + 1) ss h]
      | row e => cases h
      | self => simp only [cellArgs, ih (c + 1) ss h]
theorem hargs_congr : ∀ (ps : List PM) (p : Nat) (xs : List Operand), (onePlain ps = true ∨ allValP ps = true) → (∀ x ∈ xs, ev st' ops L x = ev st ops L x) → (∀ x ∈ xs, ∀ s, ev st ops L x = some s → ∀ i, i ∈ refsOf s → st'.objs i = st.objs i) →
    hargsO E st' ops L p ps xs = hargsO E st ops L p ps xs := by
  intro ps
  induction ps with
  | nil => intro p xs _ _ _; cases xs <;> rfl
  | cons q ps ih =>
    intro p xs hp hev hob
    cases xs with
    | nil => cases q <;> rfl
    | cons x xs =>
      have h1 := hev x List.mem_cons_self
      have h2 := hob x List.mem_cons_self
      have hev' := fun y hy => hev y (List.mem_cons_of_mem _ hy)
      have hob' := fun y hy => hob y (List.mem_cons_of_mem _ hy)
      cases q with
      | val k =>
        have := ih (p + 1) xs (by rcases hp with hp | hp; exact .inl hp; exact .inr hp) hev' hob'
        simp only [hargsO, h1, this]
      | own e => rcases hp with hp | hp <;> cases hp
      | ref k => rfl
      | box t cs =>
        rcases hp with hp | hp
        · have hp : (plainC cs && allValP ps) = true := hp
          simp only [Bool.and_eq_true] at hp
          have := ih (p + 1) xs (.inr hp.2) hev' hob'
          simp only [hargsO, h1]
          cases hs : ev st ops L x with
          | none => rfl
          | some s =>
            simp only [opt_val]
            cases s with
            | bptr i u off k =>
              have hcp : ∀ ss, cellArgs E st' i p 0 cs ss = cellArgs E st i p 0 cs ss := fun ss => cellArgs_plain cs 0 ss hp.1
              simp only [h2 _ hs i (by simp [refsOf, refs0]), hcp, this]
            | _ => rfl
        · cases hp
theorem opO_congr (o : Oper) (hn : (opEff o).all = false) (hs : ∀ t, t ∈ opdsUses o.op.operands.toList → st'.slots t = st.slots t) (hf : ∀ d, o.dst = some d → fresh st' d = fresh st d)
    (ho : (opEff o).reads = true ∨ (opEff o).writes = true → ∀ t s, t ∈ opdsUses o.op.operands.toList → st.slots t = some s → ∀ i, i ∈ refsOf s → st'.objs i = st.objs i) : opO E true st' ops L o = opO E true st ops L o := by
  have hx : ∀ x ∈ o.op.operands.toList, ∀ t, x = .tmp t → st'.slots t = st.slots t := fun x hx t e => hs t (opdsUses_mem hx e)
  have hev : ∀ x ∈ o.op.operands.toList, ev st' ops L x = ev st ops L x := fun x h => ev_congr (hx x h)
  have hob : (opEff o).reads = true ∨ (opEff o).writes = true → ∀ x ∈ o.op.operands.toList, ∀ s, ev st ops L x = some s → ∀ i, i ∈ refsOf s → st'.objs i = st.objs i := by
    intro hrw x hx s he i hi
    obtain ⟨t, rfl, hts⟩ := ev_refs he hi
    exact ho hrw t s (opdsUses_mem hx rfl) hts i hi
  unfold opO
  cases hop : o.op with
  | move x =>
    have h1 := hev x (by simp [hop, Op.operands])
    cases x with
    | const v => rfl
    | _ => simp only [moveO, h1]
  | assign x =>
    have h1 := hev x (by simp [hop, Op.operands])
    cases x with
    | const v => rfl
    | _ => simp only [moveO, h1]
  | pick c a b =>
    simp only [pickO]
    rw [hev c (by simp [hop, Op.operands])]
    have ha : ∀ tc b', evPick st' ops L tc b' a = evPick st ops L tc b' a := fun tc b' => evPick_congr (hx a (by simp [hop, Op.operands]))
    have hb : ∀ tc b', evPick st' ops L tc b' b = evPick st ops L tc b' b := fun tc b' => evPick_congr (hx b (by simp [hop, Op.operands]))
    simp only [ha, hb]
  | alloc t => simp only [allocO, withObj_congr hf]
  | box t x =>
    simp only [boxO]
    rw [hev x (by simp [hop, Op.operands])]
    simp only [withObj_congr hf]
  | build t ps =>
    simp only [buildO]
    rw [show fillD E st' ops L = fillD E st' ops L from rfl]
    have := fun fields => fill_congr (E := E) (L := L) (ops := ops) (fields := fields) ps.toList (fun p hp t e => hx p.2 (by simp [hop, Op.operands]; exact ⟨p.1, Array.mem_toList_iff.1 hp⟩) t e)
    have this2 := fun fields => fillS_congr (E := E) (L := L) (ops := ops) (fields := fields) ps.toList (fun p hp t e => hx p.2 (by simp [hop, Op.operands]; exact ⟨p.1, Array.mem_toList_iff.1 hp⟩) t e)
    simp only [this, this2]
  | buildSlice t n ps =>
    simp only [buildSliceO]
    have := fun k => elems_congr (k := k) (L := L) (ops := ops) ps.toList (fun p hp t e => hx p.2 (by simp [hop, Op.operands]; exact ⟨p.1, Array.mem_toList_iff.1 hp⟩) t e)
    simp only [this, withObj_congr hf]
  | load t x =>
    simp only [loadO]
    have h1 := hev x (by simp [hop, Op.operands])
    rw [h1]
    have h2 := hob (.inl (by simp [opEff, hop])) x (by simp [hop, Op.operands])
    cases hs : ev st ops L x with
    | none => rfl
    | some s =>
      have h3 := h2 s hs
      cases s with
      | bptr id u off k => simp only [opt_val, h3 id (by simp [refsOf, refs0])]
      | optr id e i off k => simp only [opt_val, h3 id (by simp [refsOf, refs0])]
      | _ => rfl
  | store t x y =>
    simp only [storeO]
    rw [hev x (by simp [hop, Op.operands]), hev y (by simp [hop, Op.operands])]
    have h2 := hob (.inr (by simp [opEff, hop])) x (by simp [hop, Op.operands])
    cases hs : ev st ops L x with
    | none => rfl
    | some s =>
      have h3 := h2 s hs
      cases s with
      | bptr id u off k => simp only [opt_val, h3 id (by simp [refsOf, refs0])]
      | optr id e i off k => simp only [opt_val, h3 id (by simp [refsOf, refs0])]
      | _ => rfl
  | binOp op t x y yt =>
    simp only
    rw [hev x (by simp [hop, Op.operands]), hev y (by simp [hop, Op.operands])]
  | unOp op t x =>
    simp only
    rw [hev x (by simp [hop, Op.operands])]
  | convert s t x =>
    simp only [convertO]
    rw [hev x (by simp [hop, Op.operands])]
    have h2 := hob (.inl (by simp [opEff, hop])) x (by simp [hop, Op.operands])
    cases hs : ev st ops L x with
    | none => rfl
    | some q =>
      have h3 := h2 q hs
      cases lk s E.tt with
      | none => rfl
      | some si =>
        cases lk t E.tt with
        | none => rfl
        | some ti =>
          simp only [opt_val]
          cases q with
          | own id =>
            have h4 := h3 id (by simp [refsOf, refs0])
            cases si.kt <;> cases ti.kt <;> first | rfl | simp only [h4, withObj_congr hf]
          | val k d => cases si.kt <;> cases ti.kt <;> cases k <;> first | rfl | simp only [withObj_congr hf]
          | _ => cases si.kt <;> cases ti.kt <;> first | rfl | simp only [withObj_congr hf]
  | makeSlice t l c =>
    simp only [makeSliceO]
    rw [evInt_congr (hx l (by simp [hop, Op.operands])), evInt_congr (hx c (by simp [hop, Op.operands]))]
    simp only [withObj_congr hf]
  | slice t x lo hi mx =>
    simp only [sliceO]
    have h1 := hev x (by simp [hop, Op.operands])
    have hlo : optInt st' ops L lo = optInt st ops L lo := optInt_congr (fun t e => hx (.tmp t) (by simp [hop, Op.operands, e]) t rfl)
    have hhi : optInt st' ops L hi = optInt st ops L hi := optInt_congr (fun t e => hx (.tmp t) (by simp [hop, Op.operands, e]) t rfl)
    rw [h1, hlo, hhi]
    have h2 := hob (.inl (by simp [opEff, hop])) x (by simp [hop, Op.operands])
    cases mx with
    | some _ => rfl
    | none =>
      cases lk t E.tt with
      | none => rfl
      | some ti =>
        cases hs : ev st ops L x with
        | none => rfl
        | some s =>
          have h3 := h2 s hs
          cases optInt st ops L lo with
          | none => rfl
          | some l =>
            cases optInt st ops L hi with
            | none => rfl
            | some hh =>
              simp only [opt_val]
              cases s with
              | own id =>
                have h4 := h3 id (by simp [refsOf, refs0])
                cases ti.kt <;> first | rfl | simp only [h4]
              | val k d => cases ti.kt <;> cases k <;> rfl
              | _ => cases ti.kt <;> rfl
  | fieldAddr t x f =>
    simp only [fieldAddrO]
    rw [hev x (by simp [hop, Op.operands])]
  | field t x f =>
    simp only [fieldO]
    rw [hev x (by simp [hop, Op.operands])]
  | indexAddr t x y =>
    simp only [indexAddrO]
    rw [hev x (by simp [hop, Op.operands]), hev y (by simp [hop, Op.operands])]
    have h2 := hob (.inl (by simp [opEff, hop])) x (by simp [hop, Op.operands])
    cases lk t E.tt with
    | none => rfl
    | some ti =>
      cases hs : ev st ops L x with
      | none => rfl
      | some s =>
        have h3 := h2 s hs
        cases ev st ops L y with
        | none => rfl
        | some s2 =>
          simp only [opt_val]
          cases s with
          | own id =>
            have h4 := h3 id (by simp [refsOf, refs0])
            cases ti.kt <;> first | rfl | (cases s2 with
              | val k d => cases k <;> first | rfl | simp only [h4]
              | _ => rfl)
          | val k d => cases ti.kt <;> cases k <;> first | rfl | (cases s2 with
              | val k d => cases k <;> rfl
              | _ => rfl)
          | _ => cases ti.kt <;> cases s2 <;> rfl
  | index t x y =>
    simp only [indexO]
    rw [hev x (by simp [hop, Op.operands]), hev y (by simp [hop, Op.operands])]
  | nilCheck x =>
    simp only
    rw [hev x (by simp [hop, Op.operands])]
  | extract x i =>
    simp only
    rw [hev x (by simp [hop, Op.operands])]
  | call c =>
    have harg : ∀ x ∈ c.args.toList, x ∈ o.op.operands.toList := by
      intro x hx
      rw [hop]
      simp only [Op.operands, Call.operands, Array.toList_append, List.mem_append]
      exact .inr hx
    simp only [callO]
    split
    · rename_i g hcl
      have h5 := fun b ps => args_congr (L := L) (ops := ops) (b := b) ps _ (fun x h => hx x (harg x h)) (fun x h s hs => hob (.inl (by simp [opEff, hop, hcl])) x (harg x h) s hs)
      simp only [h5]
      cases hsg : lk g E.sigs with
      | none => rfl
      | some sg =>
        simp only [opt_val]
        cases hsi : simpleH sg with
        | false => rfl
        | true =>
          have hon : onePlain sg.params = true := by
            unfold simpleH at hsi
            simp only [Bool.and_eq_true] at hsi
            exact hsi.1
          rw [hargs_congr sg.params 0 c.args.toList (.inl hon) (fun x h => hev x (harg x h)) (fun x h s hs => hob (.inl (by simp [opEff, hop, hcl])) x (harg x h) s hs)]
    · rename_i hcl
      split
      · rename_i x t h1 h2
        have hmem := harg x (by rw [h1]; simp)
        simp only [lenO]
        rw [hev x hmem]
        have h2 := hob (.inl (by simp [opEff, hop, hcl])) x hmem
        cases lk t E.tt with
        | none => rfl
        | some ti =>
          cases hs : ev st ops L x with
          | none => rfl
          | some s =>
            have h3 := h2 s hs
            simp only [opt_val]
            cases s with
            | own id =>
              have h4 := h3 id (by simp [refsOf, refs0])
              cases ti.kt <;> first | rfl | simp only [h4]
            | val k d => cases ti.kt <;> cases k <;> rfl
            | _ => cases ti.kt <;> rfl
      · rfl
    · rename_i hcl
      simp [opEff, hop, hcl] at hn
    · generalize hl : c.args.toList = l at harg
      cases l with
      | nil => rfl
      | cons x r =>
        simp only [mmO]
        rw [hev x (harg x (by simp))]
        have := fun k n => mmFold_congr (isMax := true) (k := k) (L := L) (ops := ops) r (fun y hy => hx y (harg y (by simp [hy]))) n
        simp only [this]
    · generalize hl : c.args.toList = l at harg
      cases l with
      | nil => rfl
      | cons x r =>
        simp only [mmO]
        rw [hev x (harg x (by simp))]
        have := fun k n => mmFold_congr (isMax := false) (k := k) (L := L) (ops := ops) r (fun y hy => hx y (harg y (by simp [hy]))) n
        simp only [this]
    · rfl
    · rfl
  | makeFunc fn a b => cases fn <;> rfl
  | _ => rfl

end
end Go.Proofs.Ytbinmfenhbpdnaa.DS
