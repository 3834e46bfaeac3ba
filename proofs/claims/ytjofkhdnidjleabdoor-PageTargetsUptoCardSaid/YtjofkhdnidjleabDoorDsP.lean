/- append, cutting a row, bytes of a string; all operations that change the state together. -/
import Derived.Test.YtjofkhdnidjleabDoorDsO
set_option linter.unusedVariables false
set_option linter.unusedSimpArgs false
namespace Go.Proofs.YtjofkhdnidjleabDoor.DS
open Go.RowKit

section
variable {P : Program} {E : Env} (hT : TTok P E.tt) {draw : Bool} {st : St} {ops : List Oper} {L : List (Nat × Bool)} {a : Act} {w w0 : World} {X : Nat → Prop} {Mx : Mem} {ι : Nat → Value} {M : Mem}
  (hev : ∀ x s, ev st ops L x = some s → SVRel E.tt ι M s (a.eval x))
  (H : HRel E.tt X w0 Mx ι M st.objs w) (hwf : WF st)

theorem memN_false {t : Nat} {l : List Nat} (h : memN t l = false) : t ∉ l := fun hi => by rw [memN_iff.2 hi] at h; cases h
theorem refs_scrub {id i : Nat} {s : SV} (h : i ∈ refsOf (scrubS id s)) : i ∈ refsOf s ∧ i ≠ id := by
  unfold scrubS at h
  cases hn : s.names id with
  | true => rw [hn] at h; cases h
  | false =>
    rw [hn] at h
    exact ⟨h, fun e => memN_false hn (e ▸ h)⟩
theorem refs_scrubObj {id i : Nat} {o : Obj} (h : i ∈ objRefs0 (scrubObj id o)) : i ∈ objRefs0 o ∧ i ≠ id := by
  cases o with
  | arr e es => cases h
  | box t c =>
    cases c with
    | whole d => cases h
    | cells l =>
      obtain ⟨s, hs, hi⟩ := mem_refsL.1 h
      obtain ⟨j, hj⟩ := List.getElem?_of_mem hs
      rw [scrubCells_get, Option.map_eq_some_iff] at hj
      obtain ⟨s0, hs0, rfl⟩ := hj
      cases hn : s0.names id with
      | true => rw [hn] at hi; cases hi
      | false =>
        rw [hn] at hi
        exact ⟨mem_refsL.2 ⟨s0, List.mem_of_getElem? hs0, hi⟩, fun e => memN_false hn (e ▸ refs_of_refs0 hi)⟩

include H hwf in
/-- A row gets another handle: what named it is forgotten. -/
theorem own_step {id : Nat} {ob : Obj} (hob : st.objs id = some ob) {h' : Value} {w' : World} (hg : w.grownBy w' (blockOf (ι id))) (hb : blockOf h' = blockOf (ι id) ∨ blockOf h' = some w.heap.size) {e : TypeId} {ei : TI} {es : List D} (hei : lk e E.tt = some ei) (hpos : 0 < ei.cells.length)
    (harr : ArrRel E.tt M w' ei h' es) (hsl : ∃ a n c, h' = .slice a n c) : Steps1 E.tt X w0 Mx ι M st ({ st with objs := put st.objs id (some (.arr e es)) }.scrub id) w' (.own id) h' := by
  have hobjs : ∀ i, ({ st with objs := put st.objs id (some (.arr e es)) }.scrub id).objs i = if i = id then some (.arr e es) else omap (scrubObj id) (st.objs i) := by
    intro i
    by_cases hi : i = id
    · subst hi; simp [St.scrub, put_same, omap, scrubObj]
    · simp [St.scrub, put_other _ _ _ hi, hi]
  have hin : ∀ i o, st.objs i = some o → ∃ o', ({ st with objs := put st.objs id (some (.arr e es)) }.scrub id).objs i = some o' := by
    intro i o ho
    rw [hobjs]
    split
    · exact ⟨_, rfl⟩
    · exact ⟨scrubObj id o, by rw [ho]; rfl⟩
  have hslot : ∀ t s1, ({ st with objs := put st.objs id (some (.arr e es)) }.scrub id).slots t = some s1 → ∃ s0, st.slots t = some s0 ∧ s1 = scrubS id s0 := by
    intro t s1 hs1
    simp only [St.scrub] at hs1
    cases h0 : st.slots t with
    | none => rw [h0] at hs1; cases hs1
    | some s0 => rw [h0] at hs1; injection hs1 with hs1; exact ⟨s0, rfl, hs1.symm⟩
  refine ⟨put ι id h', ?_, ?_, ?_, rfl, ⟨?_, ?_⟩, ?_⟩
  · refine H.change hg (fun b hb' => ⟨⟨ob, hob⟩, hb'⟩) (fun b hb' => ?_) ?_ ?_
    · rcases hb with hb | hb
      · exact .inl ⟨⟨ob, hob⟩, by rw [← hb]; exact hb'⟩
      · rw [hb] at hb'; injection hb' with hb'; exact .inr (by omega)
    · intro i o' hi ho'
      rw [hobjs, if_neg hi] at ho'
      cases h0 : st.objs i with
      | none => rw [h0] at ho'; cases ho'
      | some o =>
        rw [h0] at ho'; injection ho' with ho'; subst ho'
        exact ⟨o, rfl, fun hr hh => hr.scrub hi hh⟩
    · intro o' ho'
      rw [hobjs, if_pos rfl] at ho'
      injection ho' with ho'; subst ho'
      exact ⟨ei, hei, hpos, by rw [put_same]; exact harr⟩
  · intro t s1 hs1
    obtain ⟨s0, h0, rfl⟩ := hslot t s1 hs1
    exact ⟨s0, h0, fun v0 hv0 => hv0.scrub id h'⟩
  · exact ⟨by rw [put_same], by rw [put_same]; exact hsl⟩
  · intro t s1 hs1 i hi
    obtain ⟨s0, h0, rfl⟩ := hslot t s1 hs1
    obtain ⟨o, ho⟩ := hwf.slots t s0 h0 i (refs_scrub hi).1
    exact hin i o ho
  · intro j o hj i hi
    rw [hobjs] at hj
    by_cases hji : j = id
    · rw [if_pos hji] at hj; injection hj with hj; subst hj; cases hi
    · rw [if_neg hji] at hj
      cases h0 : st.objs j with
      | none => rw [h0] at hj; cases hj
      | some o0 =>
        rw [h0] at hj; injection hj with hj; subst hj
        obtain ⟨o, ho⟩ := hwf.cells j o0 h0 i (refs_scrubObj hi).1
        exact hin i o ho
  · intro i hi
    simp only [refsOf, refs0, List.mem_singleton] at hi
    rw [hi]; exact hin id ob hob

include hT hev H in
theorem src_sound {e : TypeId} {ei : TI} (hei : lk e E.tt = some ei) {x : Operand} {xv : SV} (hx : ev st ops L x = some xv) {xt : TypeId} {xi : TI} (hxi : lk xt E.tt = some xi) {ds : List D} (h : srcD E st e xi.kt xv = some ds) :
    (∃ vx, Src P E.tt M w ei (a.eval x) ds vx) ∧ ((∃ e2, P.underlying xt = some (.slice e2)) ∨ P.underlying xt = some .string) := by
  have hsv := hev x xv hx
  have hxu := (hT xt xi hxi).under
  have htype : ∀ e2, xi.kt = .slice e2 → ((∃ e2, P.underlying xt = some (.slice e2)) ∨ P.underlying xt = some .string) := by
    intro e2 hk; rw [hk] at hxu; exact .inl ⟨e2, hxu.1⟩
  unfold srcD at h
  split at h
  · rename_i e' d
    split at h
    · rename_i e2 hk2
      replace h := cond_some.1 h
      obtain ⟨hb, h⟩ := h
      simp only [Bool.and_eq_true] at hb
      have he := beq_iff.1 hb.1
      subst he
      injection h with h; subst h
      obtain ⟨A, cap, hv, hd, hlc, hcap, hall⟩ := Rep.inv_slice hsv
      refine ⟨?_, htype _ hk2⟩
      rw [hv]
      rcases Nat.eq_zero_or_pos d.toList.length with h0 | h0
      · have hnil : d.toList = [] := List.eq_nil_of_length_eq_zero h0
        rw [hnil]
        exact ⟨_, src_nil rfl A (by cases A; exact .inl rfl; exact .inr ⟨_, rfl⟩)⟩
      · obtain ⟨ei', ad, vs, rfl, hei', hsp, hz, hM, hr⟩ := hall h0
        rw [hei] at hei'; cases hei'
        exact ⟨vs, src_slice hei hsp rfl hz (fun i j u hi hu => H.mem _ _ (hM i j u hi hu)) hr⟩
    · cases h
  · rename_i d
    split at h
    · rename_i hk2
      replace h := opt_some.1 h
      obtain ⟨ei', hei', h⟩ := h
      rw [hei] at hei'; cases hei'
      replace h := cond_some.1 h
      obtain ⟨hk, h⟩ := h
      have hk := KT.eq_iff.1 hk
      injection h with h; subst h
      obtain ⟨s, hv, hd, hsz⟩ := Rep.inv_str hsv
      rw [hk2] at hxu
      refine ⟨?_, .inr hxu.1⟩
      rw [hv, hd]
      exact ⟨_, src_str hT hei hk s⟩
    · cases h
  · split at h
    · rename_i e2 hk2
      injection h with h; subst h
      have hv : a.eval x = .slice none 0 0 := hsv
      exact ⟨⟨_, by rw [hv]; exact src_nil rfl none (.inl rfl)⟩, htype _ hk2⟩
    · cases h
  · rename_i id
    split at h
    · rename_i e2 e' es hk2 hob
      replace h := cond_some.1 h
      obtain ⟨hb, h⟩ := h
      simp only [Bool.and_eq_true] at hb
      have he := beq_iff.1 hb.1
      subst he
      injection h with h; subst h
      refine ⟨?_, htype _ hk2⟩
      obtain ⟨ei', hei', hpos, harr⟩ := H.obj id _ hob
      rw [hei] at hei'; cases hei'
      have hv : a.eval x = ι id := hsv.1
      rw [hv]
      rcases harr with ⟨hι, he0⟩ | ⟨b, cap, cur, tt', fr, vs, hι, hheap, hlen, hcap, hcur, hfr, hall⟩
      · rw [hι, he0]; exact ⟨_, src_nil rfl none (.inl rfl)⟩
      · rw [hι]
        exact ⟨vs, src_slice (ad := ⟨b, 0, none⟩) hei rfl rfl (fun i hi => (hall i hi).1) (fun i j u hi hu => by
          simp only [World.cell?, hheap, Nat.zero_add]
          simpa using (hall i hi).2.1 j u hu) (fun i hi => (hall i hi).2.2)⟩
    · cases h
  · cases h

include hT hev H hwf in
theorem append_sound {o : Oper} {cl : Call} {t xt : TypeId} {x y : Operand} (ho : o.op = .call cl) (hcl : cl.callee = .builtin .append) (hx : cl.args.toList = [x, y]) (ht' : cl.argTypes.toList = [t, xt]) {c : Bool} {id : Nat} {ob : Obj} {scr : Bool} {v : SV}
    (h : appendO E st ops L o.dst t xt x y = some (.ob c id ob scr v)) (hc : c = true) : Does P E.tt X w0 Mx ι M a w o st (obSt st id ob scr) v := by
  unfold appendO at h
  replace h := opt_some.1 h
  obtain ⟨ti, ht, h⟩ := h
  replace h := opt_some.1 h
  obtain ⟨xi, hxi, h⟩ := h
  replace h := opt_some.1 h
  obtain ⟨sv, hsv, h⟩ := h
  replace h := opt_some.1 h
  obtain ⟨xv, hxv, h⟩ := h
  have hu := (hT t ti ht).under
  have hx' : cl.args = #[x, y] := by rw [← Array.toList_inj]; exact hx
  have ht'' : cl.argTypes = #[t, xt] := by rw [← Array.toList_inj]; exact ht'
  have hexec : ∀ h' w', (Builtin.append_ #[t, xt] o.type #[a.eval x, a.eval y]).run P w = .ok h' w' → (execOp a.eval o).run P w = .ok (.value h') w' := by
    intro h' w' hr
    simp [execOp, ho, resolve, hcl, invoke, builtin, hx', ht'', hr]
  split at h
  · rename_i e hk
    rw [hk] at hu
    replace h := opt_some.1 h
    obtain ⟨ei, hei, h⟩ := h
    replace h := cond_some.1 h
    obtain ⟨hb, h⟩ := h
    simp only [Bool.and_eq_true] at hb
    have hb2 := Nat.le_of_ble_eq_true hb.1
    have hb1 := Nat.le_of_ble_eq_true hb.2.1
    have hpos := Nat.le_of_ble_eq_true hb.2.2
    replace h := opt_some.1 h
    obtain ⟨ds, hds, h⟩ := h
    obtain ⟨⟨vx, hsrc⟩, hxt⟩ := src_sound hT hev H hei hxv hxi hds
    have hsr := hev x sv hsv
    have hown : ∀ id e' es, sv = .own id → st.objs id = some (.arr e' es) → e = e' → fitL es.length ds.length = true → Does P E.tt X w0 Mx ι M a w o st (obSt st id (.arr e (es ++ ds)) true) (.own id) := by
      intro id e' es hs hob he hfit
      subst he
      rw [hs] at hsr
      obtain ⟨ei', hei', _, harr⟩ := H.obj id _ hob
      rw [hei] at hei'; cases hei'
      have hv : a.eval x = ι id := hsr.1
      obtain ⟨h', w', hr, hA, hg, hbl, hsl⟩ := append_core (P := P) hT (t := t) (xt := xt) hu.1 hxt hei hpos hb1 hb2 harr hsrc (of_decide_eq_true hfit) o.type
      exact ⟨h', w', .inl (hexec h' w' (by rw [hv]; exact hr)), own_step H hwf hob hg hbl hei hpos hA hsl⟩
    split at h
    · obtain ⟨hd, hf, hcc, rfl, rfl, rfl⟩ := withObj_st h
      rw [hcc] at hc
      have hv : a.eval x = .slice none 0 0 := hsr
      obtain ⟨h', w', hr, hA, hg, hbl, hsl⟩ := append_core (P := P) hT (t := t) (xt := xt) (h := .slice none 0 0) (es := []) hu.1 hxt hei hpos hb1 hb2 (.inl ⟨rfl, rfl⟩) hsrc (of_decide_eq_true hc) o.type
      refine ⟨h', w', .inl (hexec h' w' (by rw [hv]; exact hr)), new_step (row := none) H hwf hf hg (x := h') (fun b hb => ?_) ?_ (fun i hi => by cases hi) ?_ (fun i hi => ?_)⟩
      · rcases hbl with hbl | hbl
        · rw [hbl] at hb; cases hb
        · rw [hbl] at hb; injection hb with hb; omega
      · exact ⟨ei, hei, hpos, by rw [put_same]; exact hA⟩
      · exact ⟨by rw [put_same], by rw [put_same]; exact hsl⟩
      · simpa [refsOf, refs0] using hi
    · rename_i id
      split at h
      · revert h
        generalize (Nat.beq _ _) = bb
        intro h
        cases bb with
        | true => cases h
        | false =>
          simp only [cond_false] at h
          split at h
          · rename_i e' es hob
            replace h := cond_some.1 h
            obtain ⟨he, h⟩ := h
            have he := beq_iff.1 he
            injection h with h; injection h with h1 h2 h3 h4 h5; subst h2 h3 h4 h5
            rw [← h1] at hc
            exact hown id e' es rfl hob he hc
          · cases h
      · split at h
        · rename_i e' es hob
          replace h := cond_some.1 h
          obtain ⟨he, h⟩ := h
          have he := beq_iff.1 he
          injection h with h; injection h with h1 h2 h3 h4 h5; subst h2 h3 h4 h5
          rw [← h1] at hc
          exact hown id e' es rfl hob he hc
        · cases h
    · cases h
  · cases h

include hT hev H hwf in
theorem cut_sound {o : Oper} {t : TypeId} {x : Operand} {lo hi mx : Option Operand} (ho : o.op = .slice t x lo hi mx) {c : Bool} {id : Nat} {ob : Obj} {scr : Bool} {v : SV} (h : sliceO E draw st ops L t x lo hi mx = some (.ob c id ob scr v)) (hc : c = true) : Does P E.tt X w0 Mx ι M a w o st (obSt st id ob scr) v := by
  unfold sliceO at h
  split at h
  · cases h
  · replace h := opt_some.1 h
    obtain ⟨ti, ht, h⟩ := h
    replace h := opt_some.1 h
    obtain ⟨s1, hs1, h⟩ := h
    replace h := opt_some.1 h
    obtain ⟨l, hl, h⟩ := h
    replace h := opt_some.1 h
    obtain ⟨hh, hhi, h⟩ := h
    have hu := (hT t ti ht).under
    have hsv := hev x s1 hs1
    have hlr := optInt_sound hev hl
    have hhr := optInt_sound hev hhi
    split at h
    · cases h
    · replace h := (cond_some.1 h).2
      cases h
    · rename_i e id hk
      rw [hk] at hu
      cases draw with
      | true => cases h
      | false =>
        simp only [cond_false] at h
        split at h
        · rename_i e' es hob
          replace h := cond_some.1 h
          obtain ⟨he, h⟩ := h
          have he := beq_iff.1 he
          subst he
          injection h with h; injection h with h1 h2 h3 h4 h5; subst h2 h3 h4 h5
          rw [← h1] at hc
          obtain ⟨ei, hei, hpos, harr⟩ := H.obj id _ hob
          obtain ⟨inf, hinf, hsz, _⟩ := (hT e ei hei).info
          have hv : a.eval x = ι id := hsv.1
          obtain ⟨c1, c2, c3⟩ := cutL_length es none hh hc
          have hexec : execOp a.eval o = (do pure (.value (← Instr.sliceAt t (a.eval x) (lo.map a.eval) (hi.map a.eval) none))) := by simp [execOp, ho]
          have hrun : ∀ A n cap, ι id = .slice A n cap → n = es.length → n ≤ cap → (Instr.sliceAt t (a.eval x) (lo.map a.eval) (hi.map a.eval) none).run P w = .ok (.slice A (cutL es none hh).length cap) w := by
            intro A n cap hι hn hnc
            subst hn
            have hb := bounds_run (P := P) (w := w) true es.length cap hnc hlr hhr hc
            rw [hv, hι]
            simp only [Instr.sliceAt, Instr.slice, Sem.run_bind, run_underlying hu.1, Result.andThen_ok, hb, run_size hinf, hsz, Sem.run_pure]
            rw [c1]
            simp only [Option.getD_none, Int.toNat_zero, Nat.sub_zero, Nat.zero_mul, if_true]
            congr 2
            by_cases hc0 : cap = 0
            · simp [hc0]
            · rw [if_neg hc0]
              cases A with
              | none => rfl
              | some ad => simp [Addr.add]
          rcases harr with ⟨hι, he0⟩ | ⟨b, cap, cur, tt', fr, vs, hι, hheap, hlen, hcap, hcur, hfr, hall⟩
          · subst he0
            have hnil : cutL ([] : List D) none hh = [] := by cases hh <;> simp [cutL]
            refine ⟨_, w, .inl (execOp_value hexec (hrun none 0 0 hι rfl (Nat.le_refl _))), ?_⟩
            rw [hnil]
            exact own_step H hwf hob ⟨rfl, rfl, rfl, Nat.le_refl _, fun _ _ _ => rfl⟩ (.inl (by rw [hι]; rfl)) hei hpos (.inl ⟨rfl, rfl⟩) ⟨_, _, _, rfl⟩
          · refine ⟨_, w, .inl (execOp_value hexec (hrun _ _ cap hι rfl hlen)), ?_⟩
            refine own_step H hwf hob ⟨rfl, rfl, rfl, Nat.le_refl _, fun _ _ _ => rfl⟩ (.inl (by rw [hι]; rfl)) hei hpos (.inr ⟨b, cap, cur, tt', fr, vs, rfl, hheap, by omega, hcap, hcur, hfr, ?_⟩) ⟨_, _, _, rfl⟩
            intro i hi
            have hlt : i < es.length := by omega
            have hg := cutL_get es none hh hc i
            rw [if_pos hi, List.getElem?_eq_getElem hi] at hg
            simp only [Option.getD_none, Int.toNat_zero, Nat.zero_add] at hg
            rw [List.getElem?_eq_getElem hlt] at hg
            injection hg with hg
            rw [hg]
            exact hall i hlt
        · cases h
    · cases h

include hT hev H hwf in
theorem bytes_sound {o : Oper} {t t' : TypeId} {x : Operand} (ho : o.op = .convert t t' x) {c : Bool} {id : Nat} {ob : Obj} {scr : Bool} {v : SV} (h : convertO E st ops L o.dst t t' x = some (.ob c id ob scr v)) : Does P E.tt X w0 Mx ι M a w o st (obSt st id ob scr) v := by
  unfold convertO at h
  replace h := opt_some.1 h
  obtain ⟨si, hsi, h⟩ := h
  replace h := opt_some.1 h
  obtain ⟨ti, hti, h⟩ := h
  replace h := opt_some.1 h
  obtain ⟨s1, hs1, h⟩ := h
  have hsu := (hT t si hsi).under
  have htu := (hT t' ti hti).under
  have hsv := hev x s1 hs1
  split at h
  · cases h
  · cases h
  · replace h := opt_some.1 (cond_some.1 h).2
    obtain ⟨_, _, h⟩ := h
    replace h := (cond_some.1 h).2
    cases h
  · split at h
    · replace h := opt_some.1 (cond_some.1 h).2
      obtain ⟨_, _, h⟩ := h
      replace h := (cond_some.1 h).2
      cases h
    · cases h
  · replace h := opt_some.1 h
    obtain ⟨_, _, h⟩ := h
    replace h := (cond_some.1 h).2
    cases h
  · rename_i e d hk1 hk2
    rw [hk1] at hsu; rw [hk2] at htu
    replace h := opt_some.1 h
    obtain ⟨ei, hei, h⟩ := h
    replace h := cond_some.1 h
    obtain ⟨hku, h⟩ := h
    have hku := KT.eq_iff.1 hku
    obtain ⟨hd, hf, hcc, rfl, rfl, rfl⟩ := withObj_st h
    obtain ⟨s, hv, hd2, hsz⟩ := Rep.inv_str hsv
    subst hd2
    have heu := (hT e ei hei).under
    rw [hku] at heu
    have hl1 : ei.cells.length = 1 := by rw [heu.2]; rfl
    let cap := grownCap w s.size 0 e
    have hcap1 : s.size ≤ cap := grownCap_ge w _ _ _
    have hcap2 : cap ≤ maxLen := grownCap_le_maxLen w _ _ _ hsz
    obtain ⟨cells, hcells⟩ : ∃ c : Array Value, c = s.data.map (fun b => Value.int .u8 b.toNat) ++ Array.replicate (cap - s.size) (.int .u8 0) := ⟨_, rfl⟩
    have hcs : cells.size = cap := by
      have : s.data.size = s.size := rfl
      simp only [hcells, Array.size_append, Array.size_map, Array.size_replicate]; omega
    let w' : World := (w.drew.alloc (.cells cells e)).freeze ⟨w.heap.size, cap, none⟩ 1
    have hw'new : w'.heap[w.heap.size]? = some (.cells cells e (cap, cap + 1)) := by
      have h1 := heap_alloc_new w.drew (.cells cells e)
      have h2 : w.heap.size < (w.drew.alloc (.cells cells e)).heap.size := (Array.getElem?_eq_some_iff.1 h1).1
      simp only [w', World.freeze, if_neg (show ¬ (1 = 0) by decide), Array.getElem?_modify, if_true]
      have h3 : (w.drew.alloc (.cells cells e)).heap[w.heap.size]? = some (.cells cells e (0, 0)) := h1
      rw [h3]
      rfl
    have hw'old : ∀ k, k < w.heap.size → w'.heap[k]? = w.heap[k]? := by
      intro k hk
      simp only [w', World.freeze, if_neg (show ¬ (1 = 0) by decide), Array.getElem?_modify]
      rw [if_neg (by show ¬ w.heap.size = k; omega)]
      exact heap_alloc_old w.drew _ k hk
    have hg : w.grownBy w' none := ⟨rfl, rfl, rfl, by
      have := (Array.getElem?_eq_some_iff.1 hw'new).1; omega, fun k hk _ => hw'old k hk⟩
    refine ⟨.slice (some ⟨w.heap.size, 0, none⟩) s.size cap, w', .inl (execOp_value (s := convert t t' (a.eval x)) (by simp [execOp, ho]) ?_), ?_⟩
    · rw [hv]
      have hsh : (w.drew.alloc (.cells cells e)).shape? w.heap.size = some (e, cap) := by
        have h1 : (w.drew.alloc (.cells cells e)).heap[w.heap.size]? = some (.cells cells e (0, 0)) := heap_alloc_new w.drew _
        simp only [World.shape?, h1, hcs]
      simp only [convert, Sem.run_bind, run_underlying hsu.1, run_underlying htu.1, Result.andThen_ok, run_underlying heu.1, Conv.stringToBytes, run_choose, Question.forced, Bool.false_eq_true, if_false]
      have hc2 : (Question.appendCap s.size 0 e).cut (w.tape w.drawn (.appendCap s.size 0 e)) = cap := rfl
      have hw2 : ({ w with drawn := w.drawn + 1 } : World) = w.drew := rfl
      simp only [hc2, hw2, newRow, Sem.run_bind, run_newObj, Result.andThen_ok, Sem.run_pure, markStringish, run_shape]
      have hw3 : ({ w.drew with heap := w.drew.heap.push (.cells cells e) } : World) = w.drew.alloc (.cells cells e) := rfl
      have hd0 : w.drew.heap.size = w.heap.size := rfl
      rw [← hcells]
      simp only [hw3, hd0, hsh, Result.andThen_ok, Sem.run_bind, run_freeze]
      rfl
    · refine new_step (row := none) H hwf hf hg (x := .slice (some ⟨w.heap.size, 0, none⟩) s.size cap) (fun b hb => ?_) ?_ (fun i hi => by cases hi) ?_ (fun i hi => ?_)
      · simp only [blockOf, Option.some.injEq] at hb; omega
      · have hlen : (bytesD s.data.toList).length = s.size := by simp [bytesD]
        refine ⟨ei, hei, by omega, .inr ⟨w.heap.size, cap, cells, e, (cap, cap + 1), fun i => .int .u8 ((s.data.toList.getD i 0).toNat : Int), by rw [put_same]; simp only [D.toStr, hlen], hw'new, by simp only [D.toStr]; omega, hcap2, by rw [hcs, hl1]; omega, .inl (by simp only; omega), ?_⟩⟩
        intro i hi
        have hi' : i < s.size := by simp only [D.toStr] at hi; omega
        have hil : i < s.data.toList.length := by rw [Array.length_toList]; exact hi'
        refine ⟨by rw [hl1]; rfl, ?_, ?_⟩
        · intro j u hu
          cases j with
          | zero =>
            change some (Value.int .u8 ((s.data.toList.getD i 0).toNat : Int)) = some u at hu
            rw [hl1, Nat.mul_one, Nat.add_zero, ← hu]
            rw [hcells, Array.getElem?_append_left (by simp; exact hi')]
            have hx : s.data[i]? = some (s.data[i]'hi') := Array.getElem?_eq_getElem hi'
            simp [List.getD_eq_getElem?_getD, hx]
          | succ j =>
            have := (Array.getElem?_eq_some_iff.1 hu).1
            simp [Value.cells] at this
        · rw [hku]
          have e2 : (bytesD s.data.toList)[i]'(by simp [bytesD]; exact hi') = .int ((s.data.toList.getD i 0).toNat : Int) := by
            have hx : s.data[i]? = some (s.data[i]'hi') := Array.getElem?_eq_getElem hi'
            simp [bytesD, List.getD_eq_getElem?_getD, hx]
          simp only [D.toStr]
          rw [e2]
          exact byte_rep _
      · exact ⟨by rw [put_same], _, _, _, put_same _ _ _⟩
      · simpa [refsOf, refs0] using hi
  · cases h

theorem intOp_st {op : BinOp} {k : IntKind} {x y : Int} {c : Bool} {id : Nat} {ob : Obj} {scr : Bool} {v : SV} (h : intOp op k x y = some (.ob c id ob scr v)) : False := by
  unfold intOp at h; cases op <;> cases h
theorem shiftOp_st {op : BinOp} {k : IntKind} {x y : Int} {c : Bool} {id : Nat} {ob : Obj} {scr : Bool} {v : SV} (h : shiftOp op k x y = some (.ob c id ob scr v)) : False := by
  unfold shiftOp at h; cases op <;> cases h
theorem strOp_st {op : BinOp} {x y : List UInt8} {c : Bool} {id : Nat} {ob : Obj} {scr : Bool} {v : SV} (h : strOp op x y = some (.ob c id ob scr v)) : False := by
  unfold strOp at h; cases op <;> cases h
theorem boolOp_st {op : BinOp} {x y : Bool} {c : Bool} {id : Nat} {ob : Obj} {scr : Bool} {v : SV} (h : boolOp op x y = some (.ob c id ob scr v)) : False := by
  unfold boolOp at h; cases op <;> cases h

include hT hev H hwf in
/-- Every operation that changes the state does in memory what it says. -/
theorem st_sound {o : Oper} {c : Bool} {id : Nat} {ob : Obj} {scr : Bool} {v : SV} (h : opO E draw st ops L o = some (.ob c id ob scr v)) (hc : c = true) : Does P E.tt X w0 Mx ι M a w o st (obSt st id ob scr) v := by
  unfold opO at h
  split at h
  case h_1 x hx =>
    exfalso
    unfold moveO at h
    split at h
    · replace h := opt_some.1 h
      obtain ⟨_, _, h⟩ := h
      split at h
      · replace h := opt_some.1 h
        obtain ⟨_, _, h⟩ := h
        cases h
      · cases h
    · replace h := opt_some.1 h
      obtain ⟨_, _, h⟩ := h
      cases h
  case h_2 x hx =>
    exfalso
    unfold moveO at h
    split at h
    · replace h := opt_some.1 h
      obtain ⟨_, _, h⟩ := h
      split at h
      · replace h := opt_some.1 h
        obtain ⟨_, _, h⟩ := h
        cases h
      · cases h
    · replace h := opt_some.1 h
      obtain ⟨_, _, h⟩ := h
      cases h
  case h_3 x y z hx =>
    exfalso
    unfold pickO at h
    replace h := opt_some.1 h
    obtain ⟨tc, _, h⟩ := h
    replace h := opt_some.1 h
    obtain ⟨sc, _, h⟩ := h
    split at h
    · split at h
      · replace h := (cond_some.1 h).2
        split at h
        · revert h
          generalize (sameTmp tc y) = b1
          generalize (sameTmp tc z) = b2
          intro h
          cases b1 <;> cases b2 <;> cases h
        · cases h
      · cases h
    · cases h
  case h_4 t hx => exact alloc_sound hT H hwf hx h
  case h_5 t x hx => exact box_sound hT hev H hwf hx h
  case h_6 t ps hx =>
    obtain ⟨_, h⟩ := buildO_sv h
    cases h
  case h_7 t n ps hx => exact buildSlice_sound hT hev H hwf hx h
  case h_8 t x hx =>
    exfalso
    unfold loadO at h
    replace h := opt_some.1 h
    obtain ⟨_, _, h⟩ := h
    replace h := opt_some.1 h
    obtain ⟨_, _, h⟩ := h
    split at h
    · replace h := (cond_some.1 h).2; cases h
    · replace h := (cond_some.1 h).2
      split at h
      · replace h := (cond_some.1 h).2
        replace h := opt_some.1 h
        obtain ⟨_, _, h⟩ := h
        replace h := opt_some.1 h
        obtain ⟨_, _, h⟩ := h
        cases h
      · cases h
    · replace h := (cond_some.1 h).2
      split at h
      · replace h := (cond_some.1 h).2
        replace h := opt_some.1 h
        obtain ⟨_, _, h⟩ := h
        revert h
        generalize (Nat.beq _ _ && _) = b1
        intro h
        cases b1 <;> cases h
      · cases h
    · cases h
  case h_9 t x y hx => exact store_sound hT hev H hwf hx h
  case h_10 op t x y yt hx =>
    exfalso
    replace h := opt_some.1 h
    obtain ⟨s1, hs1, h⟩ := h
    replace h := opt_some.1 h
    obtain ⟨s2, hs2, h⟩ := h
    unfold binO at h
    split at h
    · revert h
      generalize (isShift op) = b1
      intro h
      cases b1 with
      | true => exact shiftOp_st h
      | false => exact intOp_st (cond_some.1 h).2
    · exact strOp_st h
    · split at h
      · exact boolOp_st (cond_some.1 h).2
      · cases h
    · cases h
  case h_11 op t x hx =>
    exfalso
    replace h := opt_some.1 h
    obtain ⟨s1, hs1, h⟩ := h
    unfold unO at h
    split at h <;> cases h
  case h_12 s t x hx => exact bytes_sound hT hev H hwf hx h
  case h_13 t x y hx => exact makeSlice_sound hT hev H hwf hx h hc
  case h_14 t x lo hi mx hx => exact cut_sound hT hev H hwf hx h hc
  case h_15 t x f hx =>
    exfalso
    unfold fieldAddrO at h
    replace h := opt_some.1 h
    obtain ⟨_, _, h⟩ := h
    replace h := opt_some.1 h
    obtain ⟨_, _, h⟩ := h
    replace h := opt_some.1 h
    obtain ⟨_, _, h⟩ := h
    replace h := (cond_some.1 h).2
    replace h := opt_some.1 h
    obtain ⟨_, _, h⟩ := h
    split at h
    · replace h := (cond_some.1 h).2; cases h
    · replace h := (cond_some.1 h).2; cases h
    · replace h := (cond_some.1 h).2; cases h
    · cases h
  case h_16 t x y hx =>
    exfalso
    unfold indexAddrO at h
    replace h := opt_some.1 h
    obtain ⟨_, _, h⟩ := h
    replace h := opt_some.1 h
    obtain ⟨_, _, h⟩ := h
    replace h := opt_some.1 h
    obtain ⟨_, _, h⟩ := h
    split at h
    · replace h := (cond_some.1 h).2
      replace h := opt_some.1 h
      obtain ⟨_, _, h⟩ := h
      cases h
    · split at h
      · replace h := (cond_some.1 h).2
        replace h := opt_some.1 h
        obtain ⟨_, _, h⟩ := h
        cases h
      · cases h
    · cases h
  case h_17 t x y hx =>
    exfalso
    unfold indexO at h
    replace h := opt_some.1 h
    obtain ⟨_, _, h⟩ := h
    replace h := opt_some.1 h
    obtain ⟨_, _, h⟩ := h
    replace h := opt_some.1 h
    obtain ⟨_, _, h⟩ := h
    split at h <;> cases h
  case h_18 x hx =>
    exfalso
    replace h := opt_some.1 h
    obtain ⟨_, _, h⟩ := h
    split at h <;> cases h
  case h_19 x i hx =>
    exfalso
    replace h := opt_some.1 h
    obtain ⟨_, _, h⟩ := h
    split at h
    · split at h <;> cases h
    · cases h
  case h_20 cl hx =>
    unfold callO at h
    split at h
    · exfalso
      replace h := opt_some.1 h
      obtain ⟨sg, _, h⟩ := h
      rcases callF_out h with ⟨_, _, h⟩ | ⟨_, _, _, h⟩ <;> cases h
    · exfalso
      split at h
      · unfold lenO at h
        replace h := opt_some.1 h
        obtain ⟨_, _, h⟩ := h
        replace h := opt_some.1 h
        obtain ⟨_, _, h⟩ := h
        split at h
        · cases h
        · cases h
        · cases h
        · split at h <;> cases h
        · cases h
      · cases h
    · rename_i hcl
      split at h
      · rename_i x y t xt h1 h2
        exact append_sound hT hev H hwf hx hcl h1 h2 h hc
      · cases h
    · exfalso
      unfold mmO at h
      split at h
      · cases h
      · replace h := opt_some.1 h
        obtain ⟨_, _, h⟩ := h
        split at h
        · replace h := opt_some.1 h
          obtain ⟨_, _, h⟩ := h
          cases h
        · cases h
    · exfalso
      unfold mmO at h
      split at h
      · cases h
      · replace h := opt_some.1 h
        obtain ⟨_, _, h⟩ := h
        split at h
        · replace h := opt_some.1 h
          obtain ⟨_, _, h⟩ := h
          cases h
        · cases h
    · obtain ⟨_, _, _, _, _, _, _, _, _, h⟩ := clo_out h
      cases h
    · cases h
  case h_21 f fs cs hx =>
    obtain ⟨_, _, _, _, _, _, _, _, h⟩ := mkf_out h
    cases h
  case h_22 t x f hx => exact (fieldO_ob h).elim
  case h_23 => cases h

end
end Go.Proofs.YtjofkhdnidjleabDoor.DS
