/- The data-level semantics: plain data, an interpreter of the program over them, and its soundness; part 3. -/
import Derived.Laws.IdiomCopy
import Derived.Test.YtcmeincdmphaoaaDoorF2
import Derived.Orders
set_option linter.unusedVariables false
set_option linter.unusedSimpArgs false
namespace Go.Proofs.YtcmeincdmphaoaaDoor.DS
open Go.RowKit

section
variable {P : Program} {E : Env} (hT : TTok P E.tt) {draw : Bool} {st : St} {ops : List Oper} {L : List (Nat × Bool)} {a : Act} {w w0 : World} {X : Nat → Prop} {Mx : Mem} {ι : Nat → Value} {M : Mem}
  (hev : ∀ x s, ev st ops L x = some s → SVRel E.tt ι M s (a.eval x))
  (H : HRel E.tt X w0 Mx ι M st.objs w) (hwf : WF st)

theorem memN_false {t : Nat} {l : List Nat} (h : memN t l = false) : t ∉ l := fun hi => by rw [memN_iff.2 hi] at h; cases h
theorem refs_scrub {id i : Nat} {s : SV} (h : i ∈ refsOf (scrubS id s)) : i ∈ refsOf s ∧ i ≠ id := by
  unfold scrubS at h
  cases hn : s.names id with
  | true => rw [hn] at h; cases h
  | false =>
    rw [hn] at h
    exact ⟨h, fun e => memN_false hn (e ▸ h)⟩
theorem refs_scrubObj {id i : Nat} {o : Obj} (h : i ∈ objRefs0 (scrubObj id o)) : i ∈ objRefs0 o ∧ i ≠ id := by
  cases o with
  | arr e es => cases h
  | map _ _ => cases h
  | box t c =>
    cases c with
    | whole d => cases h
    | cells l =>
      obtain ⟨s, hs, hi⟩ := mem_refsL.1 h
      obtain ⟨j, hj⟩ := List.getElem?_of_mem hs
      rw [scrubCells_get, Option.map_eq_some_iff] at hj
      obtain ⟨s0, hs0, rfl⟩ := hj
      cases hn : s0.names id with
      | true => rw [hn] at hi; cases hi
      | false =>
        rw [hn] at hi
        exact ⟨mem_refsL.2 ⟨s0, List.mem_of_getElem? hs0, hi⟩, fun e => memN_false hn (e ▸ refs_of_refs0 hi)⟩

include H hwf in
/-- A row gets another handle: what named it is forgotten. -/
theorem own_step {id : Nat} {ob : Obj} (hob : st.objs id = some ob) {h' : Value} {w' : World} (hg : w.grownBy w' (blockOf (ι id))) (hb : blockOf h' = blockOf (ι id) ∨ blockOf h' = some w.heap.size) {e : TypeId} {ei : TI} {es : List D} (hei : lk e E.tt = some ei) (hpos : 0 < ei.cells.length)
    (harr : ArrRel E.tt M w' e ei h' es) (hsl : ∃ a n c, h' = .slice a n c) : Steps1 E.tt X w0 Mx ι M st ({ st with objs := put st.objs id (some (.arr e es)) }.scrub id) w' (.own id) h' := by
  have hobjs : ∀ i, ({ st with objs := put st.objs id (some (.arr e es)) }.scrub id).objs i = if i = id then some (.arr e es) else omap (scrubObj id) (st.objs i) := by
    intro i
    by_cases hi : i = id
    · subst hi; simp [St.scrub, put_same, omap, scrubObj]
    · simp [St.scrub, put_other _ _ _ hi, hi]
  have hin : ∀ i o, st.objs i = some o → ∃ o', ({ st with objs := put st.objs id (some (.arr e es)) }.scrub id).objs i = some o' := by
    intro i o ho
    rw [hobjs]
    split
    · exact ⟨_, rfl⟩
    · exact ⟨scrubObj id o, by rw [ho]; rfl⟩
  have hslot : ∀ t s1, ({ st with objs := put st.objs id (some (.arr e es)) }.scrub id).slots t = some s1 → ∃ s0, st.slots t = some s0 ∧ s1 = scrubS id s0 := by
    intro t s1 hs1
    simp only [St.scrub] at hs1
    cases h0 : st.slots t with
    | none => rw [h0] at hs1; cases hs1
    | some s0 => rw [h0] at hs1; injection hs1 with hs1; exact ⟨s0, rfl, hs1.symm⟩
  refine ⟨put ι id h', ?_, ?_, ?_, rfl, ⟨?_, ?_⟩, ?_⟩
  · refine H.change hg (fun b hb' => ⟨⟨ob, hob⟩, hb'⟩) (fun b hb' => ?_) ?_ ?_
    · rcases hb with hb | hb
      · exact .inl ⟨⟨ob, hob⟩, by rw [← hb]; exact hb'⟩
      · rw [hb] at hb'; injection hb' with hb'; exact .inr (by omega)
    · intro i o' hi ho'
      rw [hobjs, if_neg hi] at ho'
      cases h0 : st.objs i with
      | none => rw [h0] at ho'; cases ho'
      | some o =>
        rw [h0] at ho'; injection ho' with ho'; subst ho'
        exact ⟨o, rfl, fun hr hh => hr.scrub hi hh⟩
    · intro o' ho'
      rw [hobjs, if_pos rfl] at ho'
      injection ho' with ho'; subst ho'
      exact ⟨ei, hei, hpos, by rw [put_same]; exact harr⟩
  · intro t s1 hs1
    obtain ⟨s0, h0, rfl⟩ := hslot t s1 hs1
    exact ⟨s0, h0, fun v0 hv0 => hv0.scrub id h'⟩
  · exact ⟨by rw [put_same], by rw [put_same]; exact hsl⟩
  · intro t s1 hs1 i hi
    obtain ⟨s0, h0, rfl⟩ := hslot t s1 hs1
    obtain ⟨o, ho⟩ := hwf.slots t s0 h0 i (refs_scrub hi).1
    exact hin i o ho
  · intro j o hj i hi
    rw [hobjs] at hj
    by_cases hji : j = id
    · rw [if_pos hji] at hj; injection hj with hj; subst hj; cases hi
    · rw [if_neg hji] at hj
      cases h0 : st.objs j with
      | none => rw [h0] at hj; cases hj
      | some o0 =>
        rw [h0] at hj; injection hj with hj; subst hj
        obtain ⟨o, ho⟩ := hwf.cells j o0 h0 i (refs_scrubObj hi).1
        exact hin i o ho
  · intro i hi
    simp only [refsOf, refs0, List.mem_singleton] at hi
    rw [hi]; exact hin id ob hob

include hT hev H in
theorem src_sound {e : TypeId} {ei : TI} (hei : lk e E.tt = some ei) {x : Operand} {xv : SV} (hx : ev st ops L x = some xv) {xt : TypeId} {xi : TI} (hxi : lk xt E.tt = some xi) {ds : List D} (h : srcD E st e xi.kt xv = some ds) :
    (∃ vx, Src P E.tt M w ei (a.eval x) ds vx) ∧ ((∃ e2, P.underlying xt = some (.slice e2)) ∨ P.underlying xt = some .string) := by
  have hsv := hev x xv hx
  have hxu := (hT xt xi hxi).under
  have htype : ∀ e2, xi.kt = .slice e2 → ((∃ e2, P.underlying xt = some (.slice e2)) ∨ P.underlying xt = some .string) := by
    intro e2 hk; rw [hk] at hxu; exact .inl ⟨e2, hxu.1⟩
  unfold srcD at h
  split at h
  · rename_i e' d
    split at h
    · rename_i e2 hk2
      replace h := cond_some.1 h
      obtain ⟨hb, h⟩ := h
      simp only [Bool.and_eq_true] at hb
      have he := beq_iff.1 hb.1
      subst he
      injection h with h; subst h
      obtain ⟨A, cap, hv, hd, hlc, hcap, hall⟩ := Rep.inv_slice hsv
      refine ⟨?_, htype _ hk2⟩
      rw [hv]
      rcases Nat.eq_zero_or_pos d.toList.length with h0 | h0
      · have hnil : d.toList = [] := List.eq_nil_of_length_eq_zero h0
        rw [hnil]
        exact ⟨_, src_nil rfl A (by cases A; exact .inl rfl; exact .inr ⟨_, rfl⟩)⟩
      · obtain ⟨ei', ad, vs, rfl, hei', hsp, hz, hM, hr⟩ := hall h0
        rw [hei] at hei'; cases hei'
        exact ⟨vs, src_slice hei hsp rfl hz (fun i j u hi hu => H.mem _ _ (hM i j u hi hu)) hr⟩
    · cases h
  · rename_i d
    split at h
    · rename_i hk2
      replace h := opt_some.1 h
      obtain ⟨ei', hei', h⟩ := h
      rw [hei] at hei'; cases hei'
      replace h := cond_some.1 h
      obtain ⟨hk, h⟩ := h
      have hk := KT.eq_iff.1 hk
      injection h with h; subst h
      obtain ⟨s, hv, hd, hsz⟩ := Rep.inv_str hsv
      rw [hk2] at hxu
      refine ⟨?_, .inr hxu.1⟩
      rw [hv, hd]
      exact ⟨_, src_str hT hei hk s⟩
    · cases h
  · split at h
    · rename_i e2 hk2
      injection h with h; subst h
      have hv : a.eval x = .slice none 0 0 := hsv
      exact ⟨⟨_, by rw [hv]; exact src_nil rfl none (.inl rfl)⟩, htype _ hk2⟩
    · cases h
  · rename_i id
    split at h
    · rename_i e2 e' es hk2 hob
      replace h := cond_some.1 h
      obtain ⟨hb, h⟩ := h
      simp only [Bool.and_eq_true] at hb
      have he := beq_iff.1 hb.1
      subst he
      injection h with h; subst h
      refine ⟨?_, htype _ hk2⟩
      obtain ⟨ei', hei', hpos, harr⟩ := H.obj id _ hob
      rw [hei] at hei'; cases hei'
      have hv : a.eval x = ι id := hsv.1
      rw [hv]
      rcases harr with ⟨hι, he0⟩ | ⟨b, cap, cur, tt', fr, vs, hι, hheap, hlen, hcap, hcur, hfr, hall⟩
      · rw [hι, he0]; exact ⟨_, src_nil rfl none (.inl rfl)⟩
      · rw [hι]
        exact ⟨vs, src_slice (ad := ⟨b, 0, none⟩) hei rfl rfl (fun i hi => (hall i hi).1) (fun i j u hi hu => by
          simp only [World.cell?, hheap, Nat.zero_add]
          simpa using (hall i hi).2.1 j u hu) (fun i hi => (hall i hi).2.2)⟩
    · cases h
  · cases h

include hT hev H hwf in
theorem append_sound {o : Oper} {cl : Call} {t xt : TypeId} {x y : Operand} (ho : o.op = .call cl) (hcl : cl.callee = .builtin .append) (hx : cl.args.toList = [x, y]) (ht' : cl.argTypes.toList = [t, xt]) {c : Bool} {id : Nat} {ob : Obj} {scr : Bool} {v : SV}
    (h : appendO E st ops L o.dst t xt x y = some (.ob c id ob scr v)) (hc : c = true) : Does P E.tt X w0 Mx ι M a w o st (obSt st id ob scr) v := by
  unfold appendO at h
  replace h := opt_some.1 h
  obtain ⟨ti, ht, h⟩ := h
  replace h := opt_some.1 h
  obtain ⟨xi, hxi, h⟩ := h
  replace h := opt_some.1 h
  obtain ⟨sv, hsv, h⟩ := h
  replace h := opt_some.1 h
  obtain ⟨xv, hxv, h⟩ := h
  have hu := (hT t ti ht).under
  have hx' : cl.args = #[x, y] := by rw [← Array.toList_inj]; exact hx
  have ht'' : cl.argTypes = #[t, xt] := by rw [← Array.toList_inj]; exact ht'
  have hexec : ∀ h' w', (Builtin.append_ #[t, xt] o.type #[a.eval x, a.eval y]).run P w = .ok h' w' → (execOp a.eval o).run P w = .ok (.value h') w' := by
    intro h' w' hr
    simp [execOp, ho, resolve, hcl, invoke, builtin, hx', ht'', hr]
  split at h
  · rename_i e hk
    rw [hk] at hu
    replace h := opt_some.1 h
    obtain ⟨ei, hei, h⟩ := h
    replace h := cond_some.1 h
    obtain ⟨hb, h⟩ := h
    simp only [Bool.and_eq_true] at hb
    have hb2 := Nat.le_of_ble_eq_true hb.1
    have hb1 := Nat.le_of_ble_eq_true hb.2.1
    have hpos := Nat.le_of_ble_eq_true hb.2.2
    replace h := opt_some.1 h
    obtain ⟨ds, hds, h⟩ := h
    obtain ⟨⟨vx, hsrc⟩, hxt⟩ := src_sound hT hev H hei hxv hxi hds
    have hsr := hev x sv hsv
    have hown : ∀ id e' es, sv = .own id → st.objs id = some (.arr e' es) → e = e' → fitL es.length ds.length = true → Does P E.tt X w0 Mx ι M a w o st (obSt st id (.arr e (es ++ ds)) true) (.own id) := by
      intro id e' es hs hob he hfit
      subst he
      rw [hs] at hsr
      obtain ⟨ei', hei', _, harr⟩ := H.obj id _ hob
      rw [hei] at hei'; cases hei'
      have hv : a.eval x = ι id := hsr.1
      obtain ⟨h', w', hr, hA, hg, hbl, hsl⟩ := append_core (P := P) hT (t := t) (xt := xt) hu.1 hxt hei hpos hb1 hb2 harr hsrc (of_decide_eq_true hfit) o.type
      exact ⟨h', w', .inl (hexec h' w' (by rw [hv]; exact hr)), own_step H hwf hob hg hbl hei hpos hA hsl⟩
    split at h
    · obtain ⟨hd, hf, hcc, rfl, rfl, rfl⟩ := withObj_st h
      rw [hcc] at hc
      have hv : a.eval x = .slice none 0 0 := hsr
      obtain ⟨h', w', hr, hA, hg, hbl, hsl⟩ := append_core (P := P) hT (t := t) (xt := xt) (h := .slice none 0 0) (es := []) hu.1 hxt hei hpos hb1 hb2 (.inl ⟨rfl, rfl⟩) hsrc (of_decide_eq_true hc) o.type
      refine ⟨h', w', .inl (hexec h' w' (by rw [hv]; exact hr)), new_step (row := none) H hwf hf hg (x := h') (fun b hb => ?_) ?_ (fun i hi => by cases hi) ?_ (fun i hi => ?_)⟩
      · rcases hbl with hbl | hbl
        · rw [hbl] at hb; cases hb
        · rw [hbl] at hb; injection hb with hb; omega
      · exact ⟨ei, hei, hpos, by rw [put_same]; exact hA⟩
      · exact ⟨by rw [put_same], by rw [put_same]; exact hsl⟩
      · simpa [refsOf, refs0] using hi
    · rename_i id
      split at h
      · revert h
        generalize (Nat.beq _ _) = bb
        intro h
        cases bb with
        | true => cases h
        | false =>
          simp only [cond_false] at h
          split at h
          · rename_i e' es hob
            replace h := cond_some.1 h
            obtain ⟨he, h⟩ := h
            have he := beq_iff.1 he
            injection h with h; injection h with h1 h2 h3 h4 h5; subst h2 h3 h4 h5
            rw [← h1] at hc
            exact hown id e' es rfl hob he hc
          · cases h
      · split at h
        · rename_i e' es hob
          replace h := cond_some.1 h
          obtain ⟨he, h⟩ := h
          have he := beq_iff.1 he
          injection h with h; injection h with h1 h2 h3 h4 h5; subst h2 h3 h4 h5
          rw [← h1] at hc
          exact hown id e' es rfl hob he hc
        · cases h
    · cases h
  · cases h

include hT hev H hwf in
theorem cut_sound {o : Oper} {t : TypeId} {x : Operand} {lo hi mx : Option Operand} (ho : o.op = .slice t x lo hi mx) {c : Bool} {id : Nat} {ob : Obj} {scr : Bool} {v : SV} (h : sliceO E draw st ops L t x lo hi mx = some (.ob c id ob scr v)) (hc : c = true) : Does P E.tt X w0 Mx ι M a w o st (obSt st id ob scr) v := by
  unfold sliceO at h
  split at h
  · cases h
  · replace h := opt_some.1 h
    obtain ⟨ti, ht, h⟩ := h
    replace h := opt_some.1 h
    obtain ⟨s1, hs1, h⟩ := h
    replace h := opt_some.1 h
    obtain ⟨l, hl, h⟩ := h
    replace h := opt_some.1 h
    obtain ⟨hh, hhi, h⟩ := h
    have hu := (hT t ti ht).under
    have hsv := hev x s1 hs1
    have hlr := optInt_sound hev hl
    have hhr := optInt_sound hev hhi
    split at h
    · cases h
    · replace h := (cond_some.1 h).2
      cases h
    · rename_i e id hk
      rw [hk] at hu
      split at h
      rotate_left
      · split at h
        · replace h := (cond_some.1 h).2
          cases h
        · cases h
      · cases h
      cases draw with
      | true => cases h
      | false =>
        simp only [cond_false] at h
        · rename_i e' es hob
          replace h := cond_some.1 h
          obtain ⟨he, h⟩ := h
          have he := beq_iff.1 he
          subst he
          injection h with h; injection h with h1 h2 h3 h4 h5; subst h2 h3 h4 h5
          rw [← h1] at hc
          obtain ⟨ei, hei, hpos, harr⟩ := H.obj id _ hob
          obtain ⟨inf, hinf, hsz, _⟩ := (hT e ei hei).info
          have hv : a.eval x = ι id := hsv.1
          obtain ⟨c1, c2, c3⟩ := cutL_length es none hh hc
          have hexec : execOp a.eval o = (do pure (.value (← Instr.sliceAt t (a.eval x) (lo.map a.eval) (hi.map a.eval) none))) := by simp [execOp, ho]
          have hrun : ∀ A n cap, ι id = .slice A n cap → n = es.length → n ≤ cap → (Instr.sliceAt t (a.eval x) (lo.map a.eval) (hi.map a.eval) none).run P w = .ok (.slice A (cutL es none hh).length cap) w := by
            intro A n cap hι hn hnc
            subst hn
            have hb := bounds_run (P := P) (w := w) true es.length cap hnc hlr hhr hc
            rw [hv, hι]
            simp only [Instr.sliceAt, Instr.slice, Sem.run_bind, run_underlying hu.1, Result.andThen_ok, hb, run_size hinf, hsz, Sem.run_pure]
            rw [c1]
            simp only [Option.getD_none, Int.toNat_zero, Nat.sub_zero, Nat.zero_mul, if_true]
            congr 2
            by_cases hc0 : cap = 0
            · simp [hc0]
            · rw [if_neg hc0]
              cases A with
              | none => rfl
              | some ad => simp [Addr.add]
          rcases harr with ⟨hι, he0⟩ | ⟨b, cap, cur, tt', fr, vs, hι, hheap, hlen, hcap, hcur, hfr, hall⟩
          · subst he0
            have hnil : cutL ([] : List D) none hh = [] := by cases hh <;> simp [cutL]
            refine ⟨_, w, .inl (execOp_value hexec (hrun none 0 0 hι rfl (Nat.le_refl _))), ?_⟩
            rw [hnil]
            exact own_step H hwf hob ⟨rfl, rfl, rfl, Nat.le_refl _, fun _ _ _ => rfl⟩ (.inl (by rw [hι]; rfl)) hei hpos (.inl ⟨rfl, rfl⟩) ⟨_, _, _, rfl⟩
          · refine ⟨_, w, .inl (execOp_value hexec (hrun _ _ cap hι rfl hlen)), ?_⟩
            refine own_step H hwf hob ⟨rfl, rfl, rfl, Nat.le_refl _, fun _ _ _ => rfl⟩ (.inl (by rw [hι]; rfl)) hei hpos (.inr ⟨b, cap, cur, tt', fr, vs, rfl, hheap, by omega, hcap, hcur, hfr, ?_⟩) ⟨_, _, _, rfl⟩
            intro i hi
            have hlt : i < es.length := by omega
            have hg := cutL_get es none hh hc i
            rw [if_pos hi, List.getElem?_eq_getElem hi] at hg
            simp only [Option.getD_none, Int.toNat_zero, Nat.zero_add] at hg
            rw [List.getElem?_eq_getElem hlt] at hg
            injection hg with hg
            rw [hg]
            exact hall i hlt
    · cases h

theorem copyL_len (es : List D) (a b : Nat) (ha : a ≤ es.length) (hb : b ≤ es.length) : (copyL es a b).length = es.length := by
  unfold copyL; simp only [List.length_append, List.length_take, List.length_drop]; omega
theorem copyL_get (es : List D) (a b : Nat) (ha : a ≤ es.length) (hb : b ≤ es.length) (i : Nat) (hi : i < es.length) :
    (copyL es a b)[i]? = es[if a ≤ i ∧ i < a + min (es.length - b) (es.length - a) then b + (i - a) else i]? := by
  unfold copyL
  by_cases h1 : i < a
  · rw [List.getElem?_append_left (by rw [List.length_take]; omega), List.getElem?_take_of_lt h1, if_neg (by omega)]
  · rw [List.getElem?_append_right (by rw [List.length_take]; omega), List.length_take, show min a es.length = a by omega]
    by_cases h2 : i < a + min (es.length - b) (es.length - a)
    · rw [List.getElem?_append_left (by rw [List.length_take, List.length_drop]; omega), List.getElem?_take_of_lt (by omega), List.getElem?_drop, if_pos ⟨by omega, h2⟩]
    · rw [List.getElem?_append_right (by rw [List.length_take, List.length_drop]; omega), List.length_take, List.length_drop, List.getElem?_drop, if_neg (by omega)]
      congr 1; omega

theorem run_copy_fr (P : Program) (w : World) (dT sT ty elem : TypeId) (g o dLen dCap : Nat) (a : Addr) (sLen sCap : Nat) (cur : Array Value) (t : TypeId) (fz : Nat × Nat) (cs : List Value)
    (hu : P.underlying dT = some (.slice elem)) (hs : (P.info? elem).map (·.size) = some 1)
    (hg : w.heap[g]? = some (.cells cur t fz)) (hfz : cur.size ≤ fz.1 ∨ fz.2 ≤ fz.1) (hn : cs.length = Nat.min sLen dLen)
    (hsrc : ∀ j v, cs[j]? = some v → w.cell? (a.add j) = some v) (hfit : o + cs.length ≤ cur.size) (h1 : ∀ v ∈ cs, v.oneCell' = true) :
    (Builtin.copy_ #[dT, sT] ty #[.slice (some ⟨g, o, none⟩) dLen dCap, .slice (some a) sLen sCap]).run P w =
      .ok (goInt cs.length) (w.setRow g (cur.toList.take o ++ cs ++ cur.toList.drop (o + cs.length)).toArray) := by
  have hl := run_loadCells_list (P := P) w a cs hsrc
  have hst := run_storeCells_fr P g o t fz cs 0 cur w hg hfz (by simpa using hfit) h1
  cases hq : P.info? elem with
  | none => simp [hq] at hs
  | some i =>
    have hi : i.size = 1 := by simpa [hq] using hs
    simp [Builtin.copy_, run_underlying hu, Builtin.lenOf, Builtin.firstCells, sizeOf, typeInfo, hq, hi, ← hn, hl, hst]

include hT hev H hwf in
theorem copy_sound {o : Oper} {cl : Call} {t t2 : TypeId} {x y : Operand} (ho : o.op = .call cl) (hcl : cl.callee = .builtin .copy) (hx : cl.args.toList = [x, y]) (ht' : cl.argTypes.toList = [t, t2]) {c : Bool} {id : Nat} {ob : Obj} {scr : Bool} {v : SV}
    (h : copyO E draw st ops L t x y = some (.ob c id ob scr v)) : Does P E.tt X w0 Mx ι M a w o st (obSt st id ob scr) v := by
  obtain ⟨ti, e, i, k, k', es, ei, _, ht, hk, h1, h2, hob, hei, hc1, hsk, h⟩ := copyO_inv h
  injection h with _ e1 e2 e3 e4; subst e2 e3 e4
  rw [← e1] at h1 h2 hob
  clear e1
  have hu := (hT t ti ht).under
  rw [hk] at hu
  obtain ⟨eI, heI, hsz, _⟩ := (hT _ _ hei).info
  obtain ⟨ei1, A, n, cap, g1, g2, g3, g4, g5⟩ : ∃ ei A n cap, lk e E.tt = some ei ∧ ι id = .slice A n cap ∧ k ≤ n ∧ n ≤ cap ∧ a.eval x = .slice (if cap = k then A else A.map (·.add (k * ei.cells.length))) (n - k) (cap - k) := hev x _ h1
  obtain ⟨ei2, A2, n2, cap2, f1, f2, f3, f4, f5⟩ : ∃ ei A n cap, lk e E.tt = some ei ∧ ι id = .slice A n cap ∧ k' ≤ n ∧ n ≤ cap ∧ a.eval y = .slice (if cap = k' then A else A.map (·.add (k' * ei.cells.length))) (n - k') (cap - k') := hev y _ h2
  rw [g2] at f2
  injection f2 with f2 f2' f2''; subst f2 f2' f2''
  rw [hei] at g1 f1; cases g1; cases f1
  rw [hc1, Nat.mul_one] at g5 f5
  have hx' : cl.args = #[x, y] := by rw [← Array.toList_inj]; exact hx
  have ht'' : cl.argTypes = #[t, t2] := by rw [← Array.toList_inj]; exact ht'
  have hexec : ∀ h' w', (Builtin.copy_ #[t, t2] o.type #[a.eval x, a.eval y]).run P w = .ok h' w' → (execOp a.eval o).run P w = .ok (.value h') w' := by
    intro h' w' hr
    simp [execOp, ho, resolve, hcl, invoke, builtin, hx', ht'', hr]
  have hsz1 : (P.info? e).map (·.size) = some 1 := by rw [heI]; simp [hsz, hc1]
  obtain ⟨ei', hei', hpos, harr⟩ := H.obj id _ hob
  rw [hei] at hei'; cases hei'
  have hn : n = es.length := by
    rcases harr with ⟨hι, rfl⟩ | ⟨b, cap', cur, tt', fr, vs, hι, _⟩
    · rw [g2] at hι; injection hι
    · rw [g2] at hι; injection hι
  subst hn
  by_cases hm : Nat.min (es.length - k') (es.length - k) = 0
  · have hm' : min (es.length - k') (es.length - k) = 0 := hm
    have hce : copyL es k k' = es := by unfold copyL; rw [hm']; simp
    have hst : obSt st id (.arr e (copyL es k k')) false = st := by
      have hp : put st.objs id (some (.arr e es)) = st.objs := by
        funext j
        by_cases hj : j = id
        · subst hj; rw [put_same, hob]
        · rw [put_other _ _ _ hj]
      rw [hce]
      show { st with objs := put st.objs id (some (.arr e es)) } = st
      rw [hp]
    rw [hst]
    refine ⟨goInt 0, w, .inl (hexec _ _ ?_), ι, H, fun t s1 h => ⟨s1, h, fun _ h => h⟩, trivial, rfl, hwf, fun i hi => by cases hi⟩
    rw [g5, f5]
    exact run_copy_none w t t2 o.type e _ _ _ _ _ _ hu.1 hsz1 hm
  · have hm' : min (es.length - k') (es.length - k) ≠ 0 := hm
    rcases harr with ⟨hι, he0⟩ | ⟨b, cap', cur, tt', fr, vs, hι, hheap, hlen, hcap, hcur, hfr, hall⟩
    · subst he0; simp at hm'
    · rw [g2] at hι
      injection hι with hA _ hcc
      subst hA hcc
      rw [hc1, Nat.mul_one] at hcur
      rw [if_neg (by omega)] at g5 f5
      have hadd : ∀ q : Nat, (some (⟨b, 0, none⟩ : Addr)).map (·.add q) = some ⟨b, q, none⟩ := by
        intro q
        simp only [Option.map_some, Addr.add, Nat.zero_add]
        split <;> simp_all
      rw [hadd] at g5 f5
      have hcell : ∀ j (hj : j < es.length), cur[j]? = some (vs j) ∧ (vs j).oneCell' = true ∧ (vs j).cells = #[vs j] := by
        intro j hj
        obtain ⟨q1, q2, q3⟩ := hall j hj
        obtain ⟨r1, _, r2⟩ := q3.cells_single (by cases hk : ei.kt <;> rw [hk] at hsk <;> first | rfl | cases hsk)
        have := q2 0 (vs j) (by rw [r1]; rfl)
        rw [hc1, Nat.mul_one, Nat.add_zero] at this
        exact ⟨this, r2, r1⟩
      obtain ⟨m, hmd⟩ : ∃ m, m = min (es.length - k') (es.length - k) := ⟨_, rfl⟩
      have hml : ((cur.toList.drop k').take m).length = m := by
        rw [List.length_take, List.length_drop, Array.length_toList]; omega
      have hget : ∀ j, j < m → ((cur.toList.drop k').take m)[j]? = some (vs (k' + j)) := by
        intro j hj
        rw [List.getElem?_take_of_lt hj, List.getElem?_drop, Array.getElem?_toList]
        exact (hcell (k' + j) (by omega)).1
      have hrun := run_copy_fr P w t t2 o.type e b k (es.length - k) (cap - k) ⟨b, k', none⟩ (es.length - k') (cap - k') cur tt' fr ((cur.toList.drop k').take m) hu.1 hsz1 hheap hfr (hml.trans hmd)
        (fun j u hu => by
          have hj : j < m := by have := (List.getElem?_eq_some_iff.1 hu).1; omega
          rw [hget j hj] at hu
          injection hu with hu; subst hu
          have : (⟨b, k', none⟩ : Addr).add j = ⟨b, k' + j, none⟩ := by unfold Addr.add; split <;> simp_all
          rw [this]
          have hc := (hcell (k' + j) (by omega)).1
          simp [World.cell?, hheap, hc]) (by rw [hml]; omega)
        (fun u hu => by
          obtain ⟨j, hj, rfl⟩ := List.getElem_of_mem hu
          have hj' : j < m := by omega
          have := hget j hj'
          rw [List.getElem?_eq_getElem hj] at this
          injection this with this
          rw [this]
          exact (hcell (k' + j) (by omega)).2.1)
      rw [hml] at hrun
      have hstep := write_step H hwf hob (b := b) (by rw [g2]; rfl) (ob' := .arr e (copyL es k k')) (cs := (cur.toList.take k ++ (cur.toList.drop k').take m ++ cur.toList.drop (k + m)).toArray) ?_ (fun i hi => by simp [objRefs0] at hi)
      · obtain ⟨ι', s1, s2, _, s3, s4, _⟩ := hstep
        exact ⟨goInt m, _, .inl (hexec _ _ (by rw [g5, f5]; exact hrun)), ι', s1, s2, trivial, s3, s4, fun i hi => by cases hi⟩
      · have hcl := copyL_len es k k' g3 f3
        refine ⟨ei, hei, hpos, .inr ⟨b, cap, _, tt', fr, fun j => if k ≤ j ∧ j < k + m then vs (k' + (j - k)) else vs j, ?_, setRow_heap w b cur _ tt' fr hheap, by rw [hcl]; exact hlen, hcap, ?_, ?_, ?_⟩⟩
        · rw [g2, hcl]
        · simp [hc1]; omega
        · simp; omega
        · intro j hj
          rw [hcl] at hj
          have hcg := copyL_get es k k' g3 f3 j hj
          rw [← hmd] at hcg
          simp only
          by_cases hin : k ≤ j ∧ j < k + m
          · rw [if_pos hin]
            rw [if_pos hin] at hcg
            obtain ⟨q1, q2, q3⟩ := hall (k' + (j - k)) (by omega)
            rw [List.getElem?_eq_getElem (by rw [hcl]; exact hj), List.getElem?_eq_getElem (by omega)] at hcg
            injection hcg with hcg
            refine ⟨q1, fun q u hu => ?_, by rw [hcg]; exact q3⟩
            have hq := (Array.getElem?_eq_some_iff.1 hu).1
            rw [q1, hc1] at hq
            have hq : q = 0 := by omega
            subst hq
            rw [(hcell (k' + (j - k)) (by omega)).2.2] at hu
            have hu : vs (k' + (j - k)) = u := by simpa using hu
            rw [hc1, Nat.mul_one, Nat.add_zero, List.getElem?_toArray, List.append_assoc, List.getElem?_append_right (by rw [List.length_take, Array.length_toList]; omega), List.length_take, Array.length_toList, show min k cur.size = k by omega, List.getElem?_append_left (by rw [hml]; omega), hget _ (by omega), hu]
          · rw [if_neg hin]
            rw [if_neg hin] at hcg
            obtain ⟨q1, q2, q3⟩ := hall j hj
            rw [List.getElem?_eq_getElem (by rw [hcl]; exact hj), List.getElem?_eq_getElem hj] at hcg
            injection hcg with hcg
            refine ⟨q1, fun q u hu => ?_, by rw [hcg]; exact q3⟩
            have hq := (Array.getElem?_eq_some_iff.1 hu).1
            rw [q1, hc1] at hq
            have hq : q = 0 := by omega
            subst hq
            rw [(hcell j hj).2.2] at hu
            have hu : vs j = u := by simpa using hu
            rw [hc1, Nat.mul_one, Nat.add_zero, List.getElem?_toArray, List.append_assoc]
            by_cases hjk : j < k
            · rw [List.getElem?_append_left (by rw [List.length_take, Array.length_toList]; omega), List.getElem?_take_of_lt hjk, Array.getElem?_toList, (hcell j hj).1, hu]
            · rw [List.getElem?_append_right (by rw [List.length_take, Array.length_toList]; omega), List.length_take, Array.length_toList, show min k cur.size = k by omega, List.getElem?_append_right (by rw [hml]; omega), hml, List.getElem?_drop, show k + m + (j - k - m) = j by omega, Array.getElem?_toList, (hcell j hj).1, hu]

include hT hev H hwf in
theorem bytes_sound {o : Oper} {t t' : TypeId} {x : Operand} (ho : o.op = .convert t t' x) {c : Bool} {id : Nat} {ob : Obj} {scr : Bool} {v : SV} (h : convertO E st ops L o.dst t t' x = some (.ob c id ob scr v)) : Does P E.tt X w0 Mx ι M a w o st (obSt st id ob scr) v := by
  unfold convertO at h
  replace h := opt_some.1 h
  obtain ⟨si, hsi, h⟩ := h
  replace h := opt_some.1 h
  obtain ⟨ti, hti, h⟩ := h
  replace h := opt_some.1 h
  obtain ⟨s1, hs1, h⟩ := h
  have hsu := (hT t si hsi).under
  have htu := (hT t' ti hti).under
  have hsv := hev x s1 hs1
  split at h
  · cases h
  · cases h
  · replace h := opt_some.1 (cond_some.1 h).2
    obtain ⟨_, _, h⟩ := h
    replace h := (cond_some.1 h).2
    cases h
  · split at h
    · replace h := opt_some.1 (cond_some.1 h).2
      obtain ⟨_, _, h⟩ := h
      replace h := (cond_some.1 h).2
      cases h
    · cases h
  · replace h := opt_some.1 h
    obtain ⟨_, _, h⟩ := h
    replace h := (cond_some.1 h).2
    cases h
  · rename_i e d hk1 hk2
    rw [hk1] at hsu; rw [hk2] at htu
    replace h := opt_some.1 h
    obtain ⟨ei, hei, h⟩ := h
    replace h := cond_some.1 h
    obtain ⟨hku, h⟩ := h
    have hku := KT.eq_iff.1 hku
    obtain ⟨hd, hf, hcc, rfl, rfl, rfl⟩ := withObj_st h
    obtain ⟨s, hv, hd2, hsz⟩ := Rep.inv_str hsv
    subst hd2
    have heu := (hT e ei hei).under
    rw [hku] at heu
    have hl1 : ei.cells.length = 1 := by rw [heu.2]; rfl
    let cap := grownCap w s.size 0 e
    have hcap1 : s.size ≤ cap := grownCap_ge w _ _ _
    have hcap2 : cap ≤ maxLen := grownCap_le_maxLen w _ _ _ hsz
    obtain ⟨cells, hcells⟩ : ∃ c : Array Value, c = s.data.map (fun b => Value.int .u8 b.toNat) ++ Array.replicate (cap - s.size) (.int .u8 0) := ⟨_, rfl⟩
    have hcs : cells.size = cap := by
      have : s.data.size = s.size := rfl
      simp only [hcells, Array.size_append, Array.size_map, Array.size_replicate]; omega
    let w' : World := (w.drew.alloc (.cells cells e)).freeze ⟨w.heap.size, cap, none⟩ 1
    have hw'new : w'.heap[w.heap.size]? = some (.cells cells e (cap, cap + 1)) := by
      have h1 := heap_alloc_new w.drew (.cells cells e)
      have h2 : w.heap.size < (w.drew.alloc (.cells cells e)).heap.size := (Array.getElem?_eq_some_iff.1 h1).1
      simp only [w', World.freeze, if_neg (show ¬ (1 = 0) by decide), Array.getElem?_modify, if_true]
      have h3 : (w.drew.alloc (.cells cells e)).heap[w.heap.size]? = some (.cells cells e (0, 0)) := h1
      rw [h3]
      rfl
    have hw'old : ∀ k, k < w.heap.size → w'.heap[k]? = w.heap[k]? := by
      intro k hk
      simp only [w', World.freeze, if_neg (show ¬ (1 = 0) by decide), Array.getElem?_modify]
      rw [if_neg (by show ¬ w.heap.size = k; omega)]
      exact heap_alloc_old w.drew _ k hk
    have hg : w.grownBy w' none := ⟨rfl, rfl, rfl, by
      have := (Array.getElem?_eq_some_iff.1 hw'new).1; omega, fun k hk _ => hw'old k hk⟩
    refine ⟨.slice (some ⟨w.heap.size, 0, none⟩) s.size cap, w', .inl (execOp_value (s := convert t t' (a.eval x)) (by simp [execOp, ho]) ?_), ?_⟩
    · rw [hv]
      have hsh : (w.drew.alloc (.cells cells e)).shape? w.heap.size = some (e, cap) := by
        have h1 : (w.drew.alloc (.cells cells e)).heap[w.heap.size]? = some (.cells cells e (0, 0)) := heap_alloc_new w.drew _
        simp only [World.shape?, h1, hcs]
      simp only [convert, Sem.run_bind, run_underlying hsu.1, run_underlying htu.1, Result.andThen_ok, run_underlying heu.1, Conv.stringToBytes, run_choose, Question.forced, Bool.false_eq_true, if_false]
      have hc2 : (Question.appendCap s.size 0 e).cut (w.tape w.drawn (.appendCap s.size 0 e)) = cap := rfl
      have hw2 : ({ w with drawn := w.drawn + 1 } : World) = w.drew := rfl
      simp only [hc2, hw2, newRow, Sem.run_bind, run_newObj, Result.andThen_ok, Sem.run_pure, markStringish, run_shape]
      have hw3 : ({ w.drew with heap := w.drew.heap.push (.cells cells e) } : World) = w.drew.alloc (.cells cells e) := rfl
      have hd0 : w.drew.heap.size = w.heap.size := rfl
      rw [← hcells]
      simp only [hw3, hd0, hsh, Result.andThen_ok, Sem.run_bind, run_freeze]
      rfl
    · refine new_step (row := none) H hwf hf hg (x := .slice (some ⟨w.heap.size, 0, none⟩) s.size cap) (fun b hb => ?_) ?_ (fun i hi => by cases hi) ?_ (fun i hi => ?_)
      · simp only [blockOf, Option.some.injEq] at hb; omega
      · have hlen : (bytesD s.data.toList).length = s.size := by simp [bytesD]
        refine ⟨ei, hei, by omega, .inr ⟨w.heap.size, cap, cells, ⟨e, rfl⟩, (cap, cap + 1), fun i => .int .u8 ((s.data.toList.getD i 0).toNat : Int), by rw [put_same]; simp only [D.toStr, hlen], hw'new, by simp only [D.toStr]; omega, hcap2, by rw [hcs, hl1]; omega, .inl (by simp only; omega), ?_⟩⟩
        intro i hi
        have hi' : i < s.size := by simp only [D.toStr] at hi; omega
        have hil : i < s.data.toList.length := by rw [Array.length_toList]; exact hi'
        refine ⟨by rw [hl1]; rfl, ?_, ?_⟩
        · intro j u hu
          cases j with
          | zero =>
            change some (Value.int .u8 ((s.data.toList.getD i 0).toNat : Int)) = some u at hu
            rw [hl1, Nat.mul_one, Nat.add_zero, ← hu]
            rw [hcells, Array.getElem?_append_left (by simp; exact hi')]
            have hx : s.data[i]? = some (s.data[i]'hi') := Array.getElem?_eq_getElem hi'
            simp [List.getD_eq_getElem?_getD, hx]
          | succ j =>
            have := (Array.getElem?_eq_some_iff.1 hu).1
            simp [Value.cells] at this
        · rw [hku]
          have e2 : (bytesD s.data.toList)[i]'(by simp [bytesD]; exact hi') = .int ((s.data.toList.getD i 0).toNat : Int) := by
            have hx : s.data[i]? = some (s.data[i]'hi') := Array.getElem?_eq_getElem hi'
            simp [bytesD, List.getD_eq_getElem?_getD, hx]
          simp only [D.toStr]
          rw [e2]
          exact byte_rep _
      · exact ⟨by rw [put_same], _, _, _, put_same _ _ _⟩
      · simpa [refsOf, refs0] using hi
  · cases h

theorem intOp_st {op : BinOp} {k : IntKind} {x y : Int} {c : Bool} {id : Nat} {ob : Obj} {scr : Bool} {v : SV} (h : intOp op k x y = some (.ob c id ob scr v)) : False := by
  unfold intOp at h; cases op <;> cases h
theorem shiftOp_st {op : BinOp} {k : IntKind} {x y : Int} {c : Bool} {id : Nat} {ob : Obj} {scr : Bool} {v : SV} (h : shiftOp op k x y = some (.ob c id ob scr v)) : False := by
  unfold shiftOp at h; cases op <;> cases h
theorem strOp_st {op : BinOp} {x y : List UInt8} {c : Bool} {id : Nat} {ob : Obj} {scr : Bool} {v : SV} (h : strOp op x y = some (.ob c id ob scr v)) : False := by
  unfold strOp at h; cases op <;> cases h
theorem boolOp_st {op : BinOp} {x y : Bool} {c : Bool} {id : Nat} {ob : Obj} {scr : Bool} {v : SV} (h : boolOp op x y = some (.ob c id ob scr v)) : False := by
  unfold boolOp at h; cases op <;> cases h

include hT hev H hwf in
/-- Every operation that changes the state does in memory what it says. -/
theorem st_sound {o : Oper} {c : Bool} {id : Nat} {ob : Obj} {scr : Bool} {v : SV} (h : opO E draw st ops L o = some (.ob c id ob scr v)) (hc : c = true) : Does P E.tt X w0 Mx ι M a w o st (obSt st id ob scr) v := by
  unfold opO at h
  split at h
  case h_1 x hx =>
    exfalso
    unfold moveO at h
    split at h
    · replace h := opt_some.1 h
      obtain ⟨_, _, h⟩ := h
      split at h
      · replace h := opt_some.1 h
        obtain ⟨_, _, h⟩ := h
        cases h
      · cases h
    · replace h := opt_some.1 h
      obtain ⟨_, _, h⟩ := h
      cases h
  case h_2 x hx =>
    exfalso
    unfold moveO at h
    split at h
    · replace h := opt_some.1 h
      obtain ⟨_, _, h⟩ := h
      split at h
      · replace h := opt_some.1 h
        obtain ⟨_, _, h⟩ := h
        cases h
      · cases h
    · replace h := opt_some.1 h
      obtain ⟨_, _, h⟩ := h
      cases h
  case h_3 x y z hx =>
    exfalso
    unfold pickO at h
    replace h := opt_some.1 h
    obtain ⟨tc, _, h⟩ := h
    replace h := opt_some.1 h
    obtain ⟨sc, _, h⟩ := h
    split at h
    · split at h
      · replace h := (cond_some.1 h).2
        split at h
        · revert h
          generalize (sameTmp tc y) = b1
          generalize (sameTmp tc z) = b2
          intro h
          cases b1 <;> cases b2 <;> cases h
        · cases h
      · cases h
    · cases h
  case h_4 t hx => exact alloc_sound hT H hwf hx h
  case h_5 t x hx => exact box_sound hT hev H hwf hx h
  case h_6 t ps hx =>
    obtain ⟨_, h⟩ := buildO_sv h
    cases h
  case h_7 t n ps hx => exact buildSlice_sound hT hev H hwf hx h
  case h_8 t x hx =>
    exfalso
    unfold loadO at h
    replace h := opt_some.1 h
    obtain ⟨_, _, h⟩ := h
    replace h := opt_some.1 h
    obtain ⟨_, _, h⟩ := h
    split at h
    · replace h := (cond_some.1 h).2; cases h
    · replace h := (cond_some.1 h).2
      split at h
      · replace h := (cond_some.1 h).2
        replace h := opt_some.1 h
        obtain ⟨_, _, h⟩ := h
        replace h := opt_some.1 h
        obtain ⟨_, _, h⟩ := h
        cases h
      · cases h
    · replace h := (cond_some.1 h).2
      split at h
      · replace h := (cond_some.1 h).2
        replace h := opt_some.1 h
        obtain ⟨_, _, h⟩ := h
        revert h
        generalize (Nat.beq _ _ && _) = b1
        intro h
        cases b1 <;> cases h
      · cases h
    · cases h
  case h_9 t x y hx => exact store_sound hT hev H hwf hx h
  case h_10 op t x y yt hx =>
    exfalso
    replace h := opt_some.1 h
    obtain ⟨s1, hs1, h⟩ := h
    replace h := opt_some.1 h
    obtain ⟨s2, hs2, h⟩ := h
    unfold binO at h
    split at h
    · revert h
      generalize (isShift op) = b1
      intro h
      cases b1 with
      | true => exact shiftOp_st h
      | false => exact intOp_st (cond_some.1 h).2
    · exact strOp_st h
    · split at h
      · exact boolOp_st (cond_some.1 h).2
      · cases h
    · split at h
      · replace h := (cond_some.1 h).2
        unfold aggOp at h
        cases op <;> cases h
      · cases h
    · cases h
  case h_11 op t x hx =>
    exfalso
    replace h := opt_some.1 h
    obtain ⟨s1, hs1, h⟩ := h
    unfold unO at h
    split at h <;> cases h
  case h_12 s t x hx => exact bytes_sound hT hev H hwf hx h
  case h_13 t x y hx => exact makeSlice_sound hT hev H hwf hx h hc
  case h_14 t x lo hi mx hx => exact cut_sound hT hev H hwf hx h hc
  case h_15 t x f hx =>
    exfalso
    unfold fieldAddrO at h
    replace h := opt_some.1 h
    obtain ⟨_, _, h⟩ := h
    replace h := opt_some.1 h
    obtain ⟨_, _, h⟩ := h
    replace h := opt_some.1 h
    obtain ⟨_, _, h⟩ := h
    replace h := (cond_some.1 h).2
    replace h := opt_some.1 h
    obtain ⟨_, _, h⟩ := h
    split at h
    · replace h := (cond_some.1 h).2; cases h
    · replace h := (cond_some.1 h).2; cases h
    · replace h := (cond_some.1 h).2; cases h
    · cases h
  case h_16 t x y hx =>
    exfalso
    unfold indexAddrO at h
    replace h := opt_some.1 h
    obtain ⟨_, _, h⟩ := h
    replace h := opt_some.1 h
    obtain ⟨_, _, h⟩ := h
    replace h := opt_some.1 h
    obtain ⟨_, _, h⟩ := h
    split at h
    · replace h := (cond_some.1 h).2
      replace h := opt_some.1 h
      obtain ⟨_, _, h⟩ := h
      cases h
    · split at h
      · replace h := (cond_some.1 h).2
        replace h := opt_some.1 h
        obtain ⟨_, _, h⟩ := h
        cases h
      · cases h
    · cases h
  case h_17 t x y hx =>
    exfalso
    unfold indexO at h
    replace h := opt_some.1 h
    obtain ⟨_, _, h⟩ := h
    replace h := opt_some.1 h
    obtain ⟨_, _, h⟩ := h
    replace h := opt_some.1 h
    obtain ⟨_, _, h⟩ := h
    split at h <;> cases h
  case h_18 x hx =>
    exfalso
    replace h := opt_some.1 h
    obtain ⟨_, _, h⟩ := h
    split at h <;> cases h
  case h_19 x i hx =>
    exfalso
    replace h := opt_some.1 h
    obtain ⟨_, _, h⟩ := h
    split at h
    · split at h <;> cases h
    · cases h
  case h_20 cl hx =>
    unfold callO at h
    split at h
    · exfalso
      replace h := opt_some.1 h
      obtain ⟨sg, _, h⟩ := h
      rcases callF_out h with ⟨_, _, h⟩ | ⟨_, _, _, h⟩ <;> cases h
    · exfalso
      split at h
      · unfold lenO at h
        replace h := opt_some.1 h
        obtain ⟨_, _, h⟩ := h
        replace h := opt_some.1 h
        obtain ⟨_, _, h⟩ := h
        split at h
        · cases h
        · cases h
        · cases h
        · split at h <;> cases h
        · cases h
      · cases h
    · rename_i hcl
      split at h
      · rename_i x y t xt h1 h2
        exact append_sound hT hev H hwf hx hcl h1 h2 h hc
      · cases h
    · rename_i hcl
      split at h
      · rename_i x y t t2 h1 h2
        exact copy_sound hT hev H hwf hx hcl h1 h2 h
      · cases h
    · exfalso
      unfold mmO at h
      split at h
      · cases h
      · replace h := opt_some.1 h
        obtain ⟨_, _, h⟩ := h
        split at h
        · replace h := opt_some.1 h
          obtain ⟨_, _, h⟩ := h
          cases h
        · cases h
    · exfalso
      unfold mmO at h
      split at h
      · cases h
      · replace h := opt_some.1 h
        obtain ⟨_, _, h⟩ := h
        split at h
        · replace h := opt_some.1 h
          obtain ⟨_, _, h⟩ := h
          cases h
        · cases h
    · obtain ⟨_, _, _, _, _, _, _, _, _, h⟩ := clo_out h
      cases h
    · cases h
  case h_21 f fs cs hx =>
    obtain ⟨_, _, _, _, _, _, _, _, h⟩ := mkf_out h
    cases h
  case h_22 t x f hx => exact (fieldO_ob h).elim
  case h_23 t hx => exact makeMap_sound hT H hwf hx h
  case h_24 t m x ok hx => exact (lookupO_ob h).elim
  case h_25 t m x y hx => exact mapUpdate_sound hT hev H hwf (.inl hx) h
  case h_26 t m x y hx => exact mapUpdate_sound hT hev H hwf (.inr hx) h
  case h_27 => cases h

end
end Go.Proofs.YtcmeincdmphaoaaDoor.DS

namespace Go.Proofs.YtcmeincdmphaoaaDoor.DS

def dstIn (o : Oper) (l : List Nat) : Bool := match o.dst with | some d => memN d l | none => false
def indep (ops : List Oper) (i j : Nat) : Bool :=
  match nthOp ops i, nthOp ops j with
  | some oi, some oj => (!(opEff oi).all && !(opEff oj).all) && (!dstIn oi (usesOf ops j) && (!dstIn oj (usesOf ops i) && (match oi.dst, oj.dst with | some d, some d' => !Nat.beq d d' | _, _ => true)))
  | _, _ => false
def allBelow (n : Nat) (p : Nat → Bool) : Bool := match n with | 0 => true | n + 1 => cond (p n) (allBelow n p) false
theorem allBelow_spec {n : Nat} {p : Nat → Bool} (h : allBelow n p = true) : ∀ i, i < n → p i = true := by
  induction n with
  | zero => intro i hi; omega
  | succ n ih =>
    simp only [allBelow] at h
    cases hp : p n with
    | false => rw [hp] at h; cases h
    | true =>
      rw [hp] at h
      intro i hi
      by_cases e : i = n
      · rw [e]; exact hp
      · exact ih h i (by omega)
def pairsOk (ops : List Oper) (an : List (List Nat)) : Bool := allBelow ops.length fun j => allBelow j fun i => memN i (an.getD j []) || indep ops i j
def edgesOk (ops : List Oper) : Bool := allBelow ops.length fun i => match nthOp ops i with
  | some o => (anyEdges o).all fun e => Nat.ble (e + 1) i
  | none => false
def guardsOk (ops : List Oper) (draw : Bool) : Bool := allBelow ops.length fun i => match nthOp ops i with
  | some o => match o.guard with
    | none => true
    | some (j, _) => Nat.ble (j + 1) i && ((match nthOp ops j with | some oj => oj.dst.isSome | none => false) && (!draw || memN j (anyEdges o)))
  | none => false
def dstsOf : List Oper → List Nat
  | [] => []
  | o :: r => match o.dst with | some d => d :: dstsOf r | none => dstsOf r
def okRegion (ops : List Oper) (draw : Bool) : Bool :=
  nodupN (dstsOf ops) && (guardsOk ops draw && (!draw || (edgesOk ops && pairsOk ops (ancs ops))))
def okCode : Code → Bool
  | .region _ ops draw => okRegion ops.toList draw
  | .seq a b => okCode a && okCode b
  | .cond _ a b => okCode a && okCode b
  | .block _ c => okCode c
  | .loop c => okCode c
  | .skip | .exit _ | .ret => true
  | _ => false

/-- The boxes among the parameters; code that writes none of their slots. -/
def boxPs : List PM → Nat → List Nat
  | [], _ => []
  | .box _ _ :: r, i => i :: boxPs r (i + 1)
  | _ :: r, i => boxPs r (i + 1)
def noDstL (pins : List Nat) : List Oper → Bool
  | [] => true
  | o :: r => (match o.dst with | some t => !memN t pins | none => true) && noDstL pins r
def noDst (pins : List Nat) : Code → Bool
  | .region _ ops _ => noDstL pins ops.toList
  | .seq a b => noDst pins a && noDst pins b
  | .cond _ a b => noDst pins a && noDst pins b
  | .block _ c => noDst pins c
  | .loop c => noDst pins c
  | _ => true
theorem noDstL_spec {pins : List Nat} : ∀ {ops : List Oper}, noDstL pins ops = true → ∀ i o, nthOp ops i = some o → ∀ t, o.dst = some t → t ∉ pins := by
  intro ops
  induction ops with
  | nil => intro _ i o h; cases i <;> cases h
  | cons x r ih =>
    intro h i o hi t ht
    simp only [noDstL, Bool.and_eq_true] at h
    cases i with
    | zero =>
      injection hi with hi; subst hi
      have h1 := h.1
      rw [ht] at h1
      simp only [Bool.not_eq_true'] at h1
      intro hm
      rw [memN_iff.2 hm] at h1; cases h1
    | succ i => exact ih h.2 i o hi t ht

section
variable {E : Env} {draw : Bool} {st st' : St} {ops : List Oper} {L : List (Nat × Bool)}

/-- What an operation does hangs on its operands' slots, and on what these name. -/
theorem ev_congr {x : Operand} (h : ∀ t, x = .tmp t → st'.slots t = st.slots t) : ev st' ops L x = ev st ops L x := by
  cases x with
  | tmp t => simp only [ev, h t rfl]
  | _ => rfl
theorem evPick_congr {x : Operand} {c : Nat} {b : Bool} (h : ∀ t, x = .tmp t → st'.slots t = st.slots t) : evPick st' ops L c b x = evPick st ops L c b x := by
  cases x with
  | tmp t => simp only [evPick, h t rfl]
  | _ => rfl
theorem evInt_congr {x : Operand} (h : ∀ t, x = .tmp t → st'.slots t = st.slots t) : evInt st' ops L x = evInt st ops L x := by
  unfold evInt; rw [ev_congr h]
theorem optInt_congr {x : Option Operand} (h : ∀ t, x = some (.tmp t) → st'.slots t = st.slots t) : optInt st' ops L x = optInt st ops L x := by
  cases x with
  | none => rfl
  | some x => simp only [optInt]; rw [evInt_congr (fun t e => h t (by rw [e]))]
theorem ev_refs {x : Operand} {s : SV} (h : ev st ops L x = some s) {i : Nat} (hi : i ∈ refsOf s) : ∃ t, x = .tmp t ∧ st.slots t = some s := by
  cases x with
  | tmp t => exact ⟨t, rfl, (cond_some.1 h).2⟩
  | const v =>
    exfalso
    simp only [ev] at h
    unfold constSV at h
    split at h
    · injection h with h; subst h; cases hi
    · have := (cond_some.1 h).2; injection this with this; subst this; cases hi
    · have := (cond_some.1 h).2; injection this with this; subst this; cases hi
    · injection h with h; subst h; cases hi
    · injection h with h; subst h; cases hi
    · injection h with h; subst h; cases hi
    · injection h with h; subst h; cases hi
    · cases h
  | func _ => cases h; cases hi
  | _ => cases h
theorem fill_congr {fields : List (Nat × TypeId)} (ps : List (Nat × Operand)) (h : ∀ p ∈ ps, ∀ t, p.2 = .tmp t → st'.slots t = st.slots t) : ∀ cs, fillD E st' ops L fields ps cs = fillD E st ops L fields ps cs := by
  induction ps with
  | nil => intro cs; rfl
  | cons p r ih =>
    obtain ⟨i, x⟩ := p
    intro cs
    simp only [fillD]
    rw [ev_congr (h (i, x) List.mem_cons_self)]
    have ih' := ih (fun p hp => h p (List.mem_cons_of_mem _ hp))
    simp only [ih']
theorem fillS_congr {fields : List (Nat × TypeId)} (ps : List (Nat × Operand)) (h : ∀ p ∈ ps, ∀ t, p.2 = .tmp t → st'.slots t = st.slots t) : ∀ cs, fillS E st' ops L fields ps cs = fillS E st ops L fields ps cs := by
  induction ps with
  | nil => intro cs; rfl
  | cons p r ih =>
    obtain ⟨i, x⟩ := p
    intro cs
    simp only [fillS]
    rw [ev_congr (h (i, x) List.mem_cons_self)]
    have ih' := ih (fun p hp => h p (List.mem_cons_of_mem _ hp))
    simp only [ih']
theorem elems_congr {k : KT} (ps : List (Nat × Operand)) (h : ∀ p ∈ ps, ∀ t, p.2 = .tmp t → st'.slots t = st.slots t) : ∀ n, elemsD st' ops L k n ps = elemsD st ops L k n ps := by
  induction ps with
  | nil => intro n; rfl
  | cons p r ih =>
    obtain ⟨i, x⟩ := p
    intro n
    simp only [elemsD]
    rw [ev_congr (h (i, x) List.mem_cons_self)]
    have ih' := ih (fun p hp => h p (List.mem_cons_of_mem _ hp))
    simp only [ih']
theorem mmFold_congr {isMax : Bool} {k : IntKind} (xs : List Operand) (h : ∀ x ∈ xs, ∀ t, x = .tmp t → st'.slots t = st.slots t) : ∀ n, mmFold st' ops L isMax k xs n = mmFold st ops L isMax k xs n := by
  induction xs with
  | nil => intro n; rfl
  | cons x r ih =>
    intro n
    simp only [mmFold]
    rw [ev_congr (h x List.mem_cons_self)]
    have ih' := ih (fun p hp => h p (List.mem_cons_of_mem _ hp))
    simp only [ih']
theorem argD_congr {b : Bool} {k : KT} {s : SV} (h : ∀ i, i ∈ refsOf s → st'.objs i = st.objs i) : argD st' b k s = argD st b k s := by
  cases s with
  | own i => simp only [argD, h i (by simp [refsOf, refs0])]
  | _ => rfl
theorem args_congr {b : Bool} (ps : List PM) : ∀ (xs : List Operand), (∀ x ∈ xs, ∀ t, x = .tmp t → st'.slots t = st.slots t) → (∀ x ∈ xs, ∀ s, ev st ops L x = some s → ∀ i, i ∈ refsOf s → st'.objs i = st.objs i) → argsO st' ops L b ps xs = argsO st ops L b ps xs := by
  induction ps with
  | nil => intro xs h _; cases xs <;> rfl
  | cons p r ih =>
    intro xs h ho
    cases xs with
    | nil => cases p <;> rfl
    | cons x xs =>
      cases p with
      | val k =>
        simp only [argsO]
        rw [ev_congr (h x List.mem_cons_self), ih xs (fun y hy => h y (List.mem_cons_of_mem _ hy)) (fun y hy => ho y (List.mem_cons_of_mem _ hy))]
        cases hs : ev st ops L x with
        | none => rfl
        | some s =>
          show opt (argD st' b k s) _ = opt (argD st b k s) _
          rw [argD_congr (ho x List.mem_cons_self s hs)]
      | _ => rfl

theorem opt_val {α β : Type} (x : α) (f : α → Option β) : opt (some x) f = f x := rfl
theorem withObj_congr {dst : Option Nat} {ob : Obj} {vv : Nat → SV} {c : Bool} (hf : ∀ d, dst = some d → fresh st' d = fresh st d) : withObj st' dst ob vv c = withObj st dst ob vv c := by
  cases dst with
  | none => rfl
  | some d => simp only [withObj, hf d rfl]

theorem opdsUses_mem {x : Operand} {l : List Operand} {t : Nat} (hx : x ∈ l) (ht : x = .tmp t) : t ∈ opdsUses l := by
  induction l with
  | nil => cases hx
  | cons y r ih =>
    simp only [opdsUses, List.mem_append]
    rcases List.mem_cons.1 hx with rfl | hx
    · left; rw [ht]; simp [opdUses]
    · right; exact ih hx

theorem cellArgs_plain {id p : Nat} : ∀ (cs : List CK) (c : Nat) (ss : List SV), plainC cs = true → cellArgs E st' id p c cs ss = cellArgs E st id p c cs ss := by
  intro cs
  induction cs with
  | nil => intro c ss _; cases ss <;> rfl
  | cons k r ih =>
    intro c ss h
    cases ss with
    | nil => cases k <;> rfl
    | cons s ss =>
      cases k with
      | val k => simp only [cellArgs, ih (c + 1) ss h]
      | row e => cases h
      | lent => cases h
      | self => simp only [cellArgs, ih (c + 1) ss h]
theorem hargs_congr : ∀ (ps : List PM) (p : Nat) (xs : List Operand), (onePlain ps = true ∨ allValP ps = true) → (∀ x ∈ xs, ev st' ops L x = ev st ops L x) → (∀ x ∈ xs, ∀ s, ev st ops L x = some s → ∀ i, i ∈ refsOf s → st'.objs i = st.objs i) →
    hargsO E st' ops L p ps xs = hargsO E st ops L p ps xs := by
  intro ps
  induction ps with
  | nil => intro p xs _ _ _; cases xs <;> rfl
  | cons q ps ih =>
    intro p xs hp hev hob
    cases xs with
    | nil => cases q <;> rfl
    | cons x xs =>
      have h1 := hev x List.mem_cons_self
      have h2 := hob x List.mem_cons_self
      have hev' := fun y hy => hev y (List.mem_cons_of_mem _ hy)
      have hob' := fun y hy => hob y (List.mem_cons_of_mem _ hy)
      cases q with
      | val k =>
        have := ih (p + 1) xs (by rcases hp with hp | hp; exact .inl hp; exact .inr hp) hev' hob'
        simp only [hargsO, h1, this]
      | own e => rcases hp with hp | hp <;> cases hp
      | ref k => rfl
      | box t cs =>
        rcases hp with hp | hp
        · have hp : (plainC cs && allValP ps) = true := hp
          simp only [Bool.and_eq_true] at hp
          have := ih (p + 1) xs (.inr hp.2) hev' hob'
          simp only [hargsO, h1]
          cases hs : ev st ops L x with
          | none => rfl
          | some s =>
            simp only [opt_val]
            cases s with
            | bptr i u off k =>
              have hcp : ∀ ss, cellArgs E st' i p 0 cs ss = cellArgs E st i p 0 cs ss := fun ss => cellArgs_plain cs 0 ss hp.1
              simp only [h2 _ hs i (by simp [refsOf, refs0]), hcp, this]
            | own i =>
              have hz := plain_lent hp.1
              simp only [hz, Bool.false_and, cond_false]
              split <;> split <;> rfl
            | _ => rfl
        · cases hp
/-- What a load through a slot looks at is the same. -/
def LoadSame (st st' : St) : SV → Prop
  | .bptr id _ off k => st'.objs id = st.objs id ∨ ∃ u c c', st.objs id = some (.box u (.cells c)) ∧ st'.objs id = some (.box u (.cells c')) ∧ singleK k = true ∧ c'[off]? = c[off]?
  | .optr id _ _ _ _ => st'.objs id = st.objs id ∨ ((∃ u c, st.objs id = some (.box u c)) ∧ ∃ u c, st'.objs id = some (.box u c))
  | _ => True
def isLoad : Op → Bool | .load _ _ => true | _ => false
theorem opO_congr (o : Oper) (hn : (opEff o).all = false) (hs : ∀ t, t ∈ opdsUses o.op.operands.toList → st'.slots t = st.slots t) (hf : ∀ d, o.dst = some d → fresh st' d = fresh st d)
    (ho : (opEff o).reads = true ∨ (opEff o).writes = true → ∀ t s, t ∈ opdsUses o.op.operands.toList → st.slots t = some s → (isLoad o.op = false → ∀ i, i ∈ refsOf s → st'.objs i = st.objs i) ∧ (isLoad o.op = true → LoadSame st st' s)) : opO E true st' ops L o = opO E true st ops L o := by
  have hx : ∀ x ∈ o.op.operands.toList, ∀ t, x = .tmp t → st'.slots t = st.slots t := fun x hx t e => hs t (opdsUses_mem hx e)
  have hev : ∀ x ∈ o.op.operands.toList, ev st' ops L x = ev st ops L x := fun x h => ev_congr (hx x h)
  have hob : isLoad o.op = false → (opEff o).reads = true ∨ (opEff o).writes = true → ∀ x ∈ o.op.operands.toList, ∀ s, ev st ops L x = some s → ∀ i, i ∈ refsOf s → st'.objs i = st.objs i := by
    intro hnl hrw x hx s he i hi
    obtain ⟨t, rfl, hts⟩ := ev_refs he hi
    exact (ho hrw t s (opdsUses_mem hx rfl) hts).1 hnl i hi
  unfold opO
  cases hop : o.op with
  | move x =>
    have h1 := hev x (by simp [hop, Op.operands])
    cases x with
    | const v => rfl
    | _ => simp only [moveO, h1]
  | assign x =>
    have h1 := hev x (by simp [hop, Op.operands])
    cases x with
    | const v => rfl
    | _ => simp only [moveO, h1]
  | pick c a b =>
    simp only [pickO]
    rw [hev c (by simp [hop, Op.operands])]
    have ha : ∀ tc b', evPick st' ops L tc b' a = evPick st ops L tc b' a := fun tc b' => evPick_congr (hx a (by simp [hop, Op.operands]))
    have hb : ∀ tc b', evPick st' ops L tc b' b = evPick st ops L tc b' b := fun tc b' => evPick_congr (hx b (by simp [hop, Op.operands]))
    simp only [ha, hb]
  | alloc t => simp only [allocO, withObj_congr hf]
  | box t x =>
    simp only [boxO]
    rw [hev x (by simp [hop, Op.operands])]
    simp only [withObj_congr hf]
  | build t ps =>
    simp only [buildO]
    rw [show fillD E st' ops L = fillD E st' ops L from rfl]
    have := fun fields => fill_congr (E := E) (L := L) (ops := ops) (fields := fields) ps.toList (fun p hp t e => hx p.2 (by simp [hop, Op.operands]; exact ⟨p.1, Array.mem_toList_iff.1 hp⟩) t e)
    have this2 := fun fields => fillS_congr (E := E) (L := L) (ops := ops) (fields := fields) ps.toList (fun p hp t e => hx p.2 (by simp [hop, Op.operands]; exact ⟨p.1, Array.mem_toList_iff.1 hp⟩) t e)
    simp only [this, this2]
  | buildSlice t n ps =>
    simp only [buildSliceO]
    have := fun k => elems_congr (k := k) (L := L) (ops := ops) ps.toList (fun p hp t e => hx p.2 (by simp [hop, Op.operands]; exact ⟨p.1, Array.mem_toList_iff.1 hp⟩) t e)
    simp only [this, withObj_congr hf]
  | load t x =>
    simp only [loadO]
    have h1 := hev x (by simp [hop, Op.operands])
    rw [h1]
    cases hs : ev st ops L x with
    | none => rfl
    | some s =>
      have h2 : ∀ i, i ∈ refsOf s → LoadSame st st' s := by
        intro i hi
        obtain ⟨t', rfl, hts⟩ := ev_refs hs hi
        exact (ho (.inl (by simp [opEff, hop])) t' s (opdsUses_mem (x := .tmp t') (by simp [hop, Op.operands]) rfl) hts).2 (by rw [hop]; rfl)
      cases s with
      | bptr id u off k =>
        rcases h2 id (by simp [refsOf, refs0]) with h3 | ⟨u', c, c', e4, e5, e3, e6⟩
        · simp only [opt_val, h3]
        · simp only [opt_val, e4, e5]
          have : ∀ ui, boxLoad E.tt u' ui (.cells c') off k = boxLoad E.tt u' ui (.cells c) off k := by
            intro ui
            cases k with
            | agg q => cases e3
            | _ => simp only [boxLoad, e6]
          simp only [this]
      | optr id e i off k =>
        rcases h2 id (by simp [refsOf, refs0]) with h3 | ⟨⟨_, _, h3⟩, _, _, h4⟩
        · simp only [opt_val, h3]
        · simp only [opt_val, h3, h4]
      | _ => rfl
  | store t x y =>
    simp only [storeO]
    rw [hev x (by simp [hop, Op.operands]), hev y (by simp [hop, Op.operands])]
    have h2 := hob (by rw [hop]; rfl) (.inr (by simp [opEff, hop])) x (by simp [hop, Op.operands])
    cases hs : ev st ops L x with
    | none => rfl
    | some s =>
      have h3 := h2 s hs
      cases s with
      | bptr id u off k => simp only [opt_val, h3 id (by simp [refsOf, refs0])]
      | optr id e i off k => simp only [opt_val, h3 id (by simp [refsOf, refs0])]
      | _ => rfl
  | binOp op t x y yt =>
    simp only
    rw [hev x (by simp [hop, Op.operands]), hev y (by simp [hop, Op.operands])]
  | unOp op t x =>
    simp only
    rw [hev x (by simp [hop, Op.operands])]
  | convert s t x =>
    simp only [convertO]
    rw [hev x (by simp [hop, Op.operands])]
    have h2 := hob (by rw [hop]; rfl) (.inl (by simp [opEff, hop])) x (by simp [hop, Op.operands])
    cases hs : ev st ops L x with
    | none => rfl
    | some q =>
      have h3 := h2 q hs
      cases lk s E.tt with
      | none => rfl
      | some si =>
        cases lk t E.tt with
        | none => rfl
        | some ti =>
          simp only [opt_val]
          cases q with
          | own id =>
            have h4 := h3 id (by simp [refsOf, refs0])
            cases si.kt <;> cases ti.kt <;> first | rfl | simp only [h4, withObj_congr hf]
          | val k d => cases si.kt <;> cases ti.kt <;> cases k <;> first | rfl | simp only [withObj_congr hf]
          | _ => cases si.kt <;> cases ti.kt <;> first | rfl | simp only [withObj_congr hf]
  | makeSlice t l c =>
    simp only [makeSliceO]
    rw [evInt_congr (hx l (by simp [hop, Op.operands])), evInt_congr (hx c (by simp [hop, Op.operands]))]
    simp only [withObj_congr hf]
  | slice t x lo hi mx =>
    simp only [sliceO]
    have h1 := hev x (by simp [hop, Op.operands])
    have hlo : optInt st' ops L lo = optInt st ops L lo := optInt_congr (fun t e => hx (.tmp t) (by simp [hop, Op.operands, e]) t rfl)
    have hhi : optInt st' ops L hi = optInt st ops L hi := optInt_congr (fun t e => hx (.tmp t) (by simp [hop, Op.operands, e]) t rfl)
    rw [h1, hlo, hhi]
    have h2 := hob (by rw [hop]; rfl) (.inl (by simp [opEff, hop])) x (by simp [hop, Op.operands])
    cases mx with
    | some _ => rfl
    | none =>
      cases lk t E.tt with
      | none => rfl
      | some ti =>
        cases hs : ev st ops L x with
        | none => rfl
        | some s =>
          have h3 := h2 s hs
          cases optInt st ops L lo with
          | none => rfl
          | some l =>
            cases optInt st ops L hi with
            | none => rfl
            | some hh =>
              simp only [opt_val]
              cases s with
              | own id =>
                have h4 := h3 id (by simp [refsOf, refs0])
                cases ti.kt <;> first | rfl | simp only [h4]
              | val k d => cases ti.kt <;> cases k <;> rfl
              | _ => cases ti.kt <;> rfl
  | fieldAddr t x f =>
    simp only [fieldAddrO]
    rw [hev x (by simp [hop, Op.operands])]
  | field t x f =>
    simp only [fieldO]
    rw [hev x (by simp [hop, Op.operands])]
  | indexAddr t x y =>
    simp only [indexAddrO]
    rw [hev x (by simp [hop, Op.operands]), hev y (by simp [hop, Op.operands])]
    have h2 := hob (by rw [hop]; rfl) (.inl (by simp [opEff, hop])) x (by simp [hop, Op.operands])
    cases lk t E.tt with
    | none => rfl
    | some ti =>
      cases hs : ev st ops L x with
      | none => rfl
      | some s =>
        have h3 := h2 s hs
        cases ev st ops L y with
        | none => rfl
        | some s2 =>
          simp only [opt_val]
          cases s with
          | own id =>
            have h4 := h3 id (by simp [refsOf, refs0])
            cases ti.kt <;> first | rfl | (cases s2 with
              | val k d => cases k <;> first | rfl | simp only [h4]
              | _ => rfl)
          | val k d => cases ti.kt <;> cases k <;> first | rfl | (cases s2 with
              | val k d => cases k <;> rfl
              | _ => rfl)
          | _ => cases ti.kt <;> cases s2 <;> rfl
  | index t x y =>
    simp only [indexO]
    rw [hev x (by simp [hop, Op.operands]), hev y (by simp [hop, Op.operands])]
  | nilCheck x =>
    simp only
    rw [hev x (by simp [hop, Op.operands])]
  | extract x i =>
    simp only
    rw [hev x (by simp [hop, Op.operands])]
  | call c =>
    have harg : ∀ x ∈ c.args.toList, x ∈ o.op.operands.toList := by
      intro x hx
      rw [hop]
      simp only [Op.operands, Call.operands, Array.toList_append, List.mem_append]
      exact .inr hx
    simp only [callO]
    split
    · rename_i g hcl
      have h5 := fun b ps => args_congr (L := L) (ops := ops) (b := b) ps _ (fun x h => hx x (harg x h)) (fun x h s hs => hob (by rw [hop]; rfl) (.inl (by simp [opEff, hop, hcl])) x (harg x h) s hs)
      simp only [h5]
      cases hsg : lk g E.sigs with
      | none => rfl
      | some sg =>
        simp only [opt_val]
        cases hsi : simpleH sg with
        | false => rfl
        | true =>
          have hon : onePlain sg.params = true := by
            unfold simpleH at hsi
            simp only [Bool.and_eq_true] at hsi
            exact hsi.1
          rw [hargs_congr sg.params 0 c.args.toList (.inl hon) (fun x h => hev x (harg x h)) (fun x h s hs => hob (by rw [hop]; rfl) (.inl (by simp [opEff, hop, hcl])) x (harg x h) s hs)]
    · rename_i hcl
      split
      · rename_i x t h1 h2
        have hmem := harg x (by rw [h1]; simp)
        simp only [lenO]
        rw [hev x hmem]
        have h2 := hob (by rw [hop]; rfl) (.inl (by simp [opEff, hop, hcl])) x hmem
        cases lk t E.tt with
        | none => rfl
        | some ti =>
          cases hs : ev st ops L x with
          | none => rfl
          | some s =>
            have h3 := h2 s hs
            simp only [opt_val]
            cases s with
            | own id =>
              have h4 := h3 id (by simp [refsOf, refs0])
              cases ti.kt <;> first | rfl | simp only [h4]
            | val k d => cases ti.kt <;> cases k <;> rfl
            | _ => cases ti.kt <;> rfl
      · rfl
    · rename_i hcl
      split
      · rename_i s x t xt h1 h2
        have hms := harg s (by rw [h1]; simp)
        have hmx := harg x (by rw [h1]; simp)
        have k1 := hob (by rw [hop]; rfl) (.inl (by simp [opEff, hop, hcl])) s hms
        have k2 := hob (by rw [hop]; rfl) (.inl (by simp [opEff, hop, hcl])) x hmx
        simp only [appendO]
        rw [hev s hms, hev x hmx]
        cases hs : ev st ops L s with
        | none => rfl
        | some sv =>
          cases hxx : ev st ops L x with
          | none => rfl
          | some xv =>
            have hsrc : ∀ e k, srcD E st' e k xv = srcD E st e k xv := by
              intro e k
              cases xv with
              | own id => simp only [srcD, k2 _ hxx id (by simp [refsOf, refs0])]
              | val k' d => cases k' <;> rfl
              | _ => rfl
            cases sv with
            | own id => simp only [opt_val, hsrc, k1 _ hs id (by simp [refsOf, refs0])]
            | nil => simp only [opt_val, hsrc, withObj_congr hf]
            | _ => simp only [opt_val, hsrc]
      · rfl
    · rename_i hcl
      simp [opEff, hop, hcl] at hn
    · generalize hl : c.args.toList = l at harg
      cases l with
      | nil => rfl
      | cons x r =>
        simp only [mmO]
        rw [hev x (harg x (by simp))]
        have := fun k n => mmFold_congr (isMax := true) (k := k) (L := L) (ops := ops) r (fun y hy => hx y (harg y (by simp [hy]))) n
        simp only [this]
    · generalize hl : c.args.toList = l at harg
      cases l with
      | nil => rfl
      | cons x r =>
        simp only [mmO]
        rw [hev x (harg x (by simp))]
        have := fun k n => mmFold_congr (isMax := false) (k := k) (L := L) (ops := ops) r (fun y hy => hx y (harg y (by simp [hy]))) n
        simp only [this]
    · rfl
    · rfl
  | makeFunc fn a b => cases fn <;> rfl
  | makeMap t r => simp [opEff, hop] at hn
  | mapUpdate t m x y => simp [opEff, hop] at hn
  | insert t m x y => simp [opEff, hop] at hn
  | lookup t m x ok =>
    simp only [lookupO]
    rw [hev m (by simp [hop, Op.operands]), hev x (by simp [hop, Op.operands])]
    have h2 := hob (by rw [hop]; rfl) (.inl (by simp [opEff, hop])) m (by simp [hop, Op.operands])
    cases hs : ev st ops L m with
    | none => rfl
    | some s =>
      have h3 := h2 s hs
      cases s with
      | mp id =>
        have h4 := h3 id (by simp [refsOf, refs0])
        simp only [opt_val, h4]
      | _ => rfl
  | _ => rfl

end
end Go.Proofs.YtcmeincdmphaoaaDoor.DS

namespace Go.Proofs.YtcmeincdmphaoaaDoor.DS

/-- What operation i of a region would do. -/
def evalU (E : Env) (callk : Nat → List D → R) (ops : List Oper) (draw : Bool) (i : Nat) (st : St) : Option (Option Nat × Upd) :=
  match nthOp ops i with
  | none => none
  | some o => match chainOf ops i with
    | [] => match opO E draw st ops [] o with
      | some (.sv c v) => cond c (some (o.dst, ⟨v, none, []⟩)) none
      | some (.ob c id ob scr v) => cond (isLit E.sigs ops o) (opt (gNew st o.dst (.ob c id ob scr v)) fun u => some (o.dst, u)) (cond c (some (o.dst, ⟨v, some (id, ob, scr), []⟩)) none)
      | some (.call f ds rs) => cond (!draw || (allValR rs || own1 draw rs)) (opt (callk f ds) fun r => opt (resUpdD draw st rs o.dst r) fun u => some (o.dst, u)) none
      | some (.hcall f ds sg rows boxes) => cond draw (opt (callk f ds) fun r => opt (hUpdD st sg o.dst boxes r) fun u => some (o.dst, u)) none
      | _ => none
    | p :: L => cond (guardsThere st (p :: L)) (match opO E draw st ops (p :: L) o with
      | some (.sv c v) => cond (c || !guardB st (p :: L)) (some (o.dst, ⟨v, none, []⟩)) none
      | some (.ob c id ob scr v) => opt (gNew st o.dst (.ob c id ob scr v)) fun u => some (o.dst, u)
      | some (.call f ds rs) => cond (allValR rs) (opt (cond (guardB st (p :: L)) (callk f ds) (some [])) fun r => opt (resUpd st rs o.dst r) fun u => some (o.dst, u)) none
      | _ => none) none

theorem opt_opt {α β γ : Type} (x : Option α) (f : α → Option β) (g : β → Option γ) : opt (opt x f) g = opt x fun a => opt (f a) g := by
  cases x <;> rfl
theorem opt_cond {α β : Type} (c : Bool) (x : Option α) (f : α → Option β) : opt (cond c x none) f = cond c (opt x f) none := by
  cases c <;> rfl

/-- Is operation i a call to which boxes or rows are handed over? -/
def isH (E : Env) (ops : List Oper) (draw : Bool) (i : Nat) (st : St) : Bool :=
  match nthOp ops i with
  | none => false
  | some o => match chainOf ops i with
    | [] => match opO E draw st ops [] o with
      | some (.hcall _ _ _ _ _) => true
      | _ => false
    | p :: L => match opO E draw st ops (p :: L) o with
      | some (.hcall _ _ _ _ _) => true
      | _ => false
theorem opK_eq {α : Type} (E : Env) (callk : Nat → List D → R) (ops : List Oper) (draw : Bool) (i : Nat) (st : St) (K : St → Option α) (hd : draw = true ∨ isH E ops draw i st = false) :
    opK E callk ops draw i st K = opt (evalU E callk ops draw i st) fun p => opt (applyU st p.1 p.2) K := by
  unfold isH at hd
  unfold opK evalU
  cases hnth : nthOp ops i with
  | none => rfl
  | some o =>
    rw [hnth] at hd
    simp only at hd ⊢
    cases hch : chainOf ops i with
    | nil =>
      rw [hch] at hd
      simp only at hd ⊢
      cases hop : opO E draw st ops [] o with
      | none => rfl
      | some out =>
        rw [hop] at hd
        cases out with
        | hcall f ds sg rows boxes =>
          rcases hd with hd | hd
          · subst hd; simp only [cond_true, opt_opt, opt_val]
          · cases hd
        | sv c v => simp only [opt_cond, opt_val]
        | ob c id ob scr v => cases isLit E.sigs ops o <;> simp only [cond_true, cond_false, opt_opt, opt_cond, opt_val]
        | call f ds rs => simp only [opt_cond, opt_opt, opt_val]
    | cons p L =>
      rw [hch] at hd
      simp only at hd
      simp only [opt_cond]
      cases hop : opO E draw st ops (p :: L) o with
      | none => rfl
      | some out =>
        rw [hop] at hd
        cases out with
        | sv c v =>
          simp only [opt_cond, opt_val]
        | ob c id ob scr v => simp only [opt_opt, opt_val]
        | hcall _ _ _ _ _ =>
          rcases hd with hd | hd
          · subst hd; rfl
          · cases hd
        | call f ds rs => simp only [opt_cond, opt_opt, opt_val]

theorem opK_eqT {α : Type} (E : Env) (callk : Nat → List D → R) (ops : List Oper) (i : Nat) (st : St) (K : St → Option α) :
    opK E callk ops true i st K = opt (evalU E callk ops true i st) fun p => opt (applyU st p.1 p.2) K := opK_eq E callk ops true i st K (.inl rfl)

section
variable {E : Env} {draw : Bool} {st st' : St} {ops : List Oper} {L : List (Nat × Bool)} (hwf : WF st)

def There (st : St) (s : SV) : Prop := ∀ i, i ∈ refsOf s → ∃ ob, st.objs i = some ob
theorem There.val (st : St) (k : KT) (d : D) : There st (.val k d) := fun i hi => by cases hi
include hwf in
theorem ev_there {x : Operand} {s : SV} (h : ev st ops L x = some s) : There st s := by
  intro i hi
  obtain ⟨t, _, hts⟩ := ev_refs h hi
  exact hwf.slots t s hts i hi

theorem intOp_val {op : BinOp} {k : IntKind} {x y : Int} {c : Bool} {v : SV} (h : intOp op k x y = some (.sv c v)) : There st v := by
  unfold intOp at h; cases op <;> first | (cases h; done) | (injection h with h; injection h with h1 h2; subst h2; exact There.val _ _ _)
theorem shiftOp_val {op : BinOp} {k : IntKind} {x y : Int} {c : Bool} {v : SV} (h : shiftOp op k x y = some (.sv c v)) : There st v := by
  unfold shiftOp at h; cases op <;> first | (cases h; done) | (injection h with h; injection h with h1 h2; subst h2; exact There.val _ _ _)
theorem strOp_val {op : BinOp} {x y : List UInt8} {c : Bool} {v : SV} (h : strOp op x y = some (.sv c v)) : There st v := by
  unfold strOp at h; cases op <;> first | (cases h; done) | (injection h with h; injection h with h1 h2; subst h2; exact There.val _ _ _)
theorem boolOp_val {op : BinOp} {x y : Bool} {c : Bool} {v : SV} (h : boolOp op x y = some (.sv c v)) : There st v := by
  unfold boolOp at h; cases op <;> first | (cases h; done) | (injection h with h; injection h with h1 h2; subst h2; exact There.val _ _ _)

include hwf in
theorem boxLoad_there {id : Nat} {u : TypeId} {ui : TI} {c : BC} (hob : st.objs id = some (.box u c)) {off : Nat} {k : KT} {v : SV} (h : boxLoad E.tt u ui c off k = some v) : There st v := by
  cases c with
  | whole d =>
    simp only [boxLoad] at h
    revert h
    generalize (Nat.beq off 0 && _) = b
    intro h
    cases b <;> (injection h with h; subst h; exact There.val _ _ _)
  | cells l =>
    have hcell : ∀ (j : Nat) (s : SV), l[j]? = some s → ∀ i, i ∈ refs0 s → ∃ ob, st.objs i = some ob := fun j s hj i hi => hwf.cells id _ hob i (mem_refsL.2 ⟨s, List.mem_of_getElem? hj, hi⟩)
    have key : ∀ k', (match l[off]? with | some (.val k'' d) => cond (KT.eq k' k'') (some (SV.val k' d)) none | some (.tup _) => none | some (.sag _ _ _) => none | some s => some s | none => none) = some v → There st v := by
      intro k' h
      cases hl : l[off]? with
      | none => rw [hl] at h; cases h
      | some s =>
        rw [hl] at h
        have hc := hcell off s hl
        cases s with
        | val k2 d => have := (cond_some.1 h).2; injection this with this; subst this; exact There.val _ _ _
        | tup t => cases h
        | sag _ _ _ => cases h
        | _ => injection h with h; subst h; exact hc
    cases k with
    | agg q =>
      simp only [boxLoad] at h
      cases hq : lk q E.tt with
      | none => rw [hq] at h; cases h
      | some tu =>
        rw [hq] at h
        simp only [Option.map_eq_some_iff] at h
        obtain ⟨ds, _, rfl⟩ := h
        exact There.val _ _ _
    | _ => exact key _ h

theorem moveO_there {x : Operand} {t : TypeId} {c : Bool} {v : SV} (hwf : WF st) (h : moveO E st ops L x t = some (.sv c v)) : There st v := by
  unfold moveO at h
  split at h
  · replace h := opt_some.1 h
    obtain ⟨ti, _, h⟩ := h
    split at h
    · replace h := opt_some.1 h
      obtain ⟨ds, _, h⟩ := h
      injection h with h; injection h with h1 h2; subst h2; exact There.val _ _ _
    · cases h
  · replace h := opt_some.1 h
    obtain ⟨s, hs, h⟩ := h
    injection h with h; injection h with h1 h2; subst h2
    exact ev_there hwf hs

theorem zeroSB_refs (ks : List KT) : ∀ s ∈ ks.map zeroSB, refs0 s = [] := by
  intro s hs
  obtain ⟨k, _, rfl⟩ := List.mem_map.1 hs
  cases k <;> rfl
theorem expand_refs1 (ks : List KT) (d : D) : ∀ i, ∀ s ∈ expand ks d i, refs0 s = [] := by
  induction ks with
  | nil => intro i s hs; cases hs
  | cons k r ih =>
    intro i s hs
    rcases List.mem_cons.1 hs with rfl | hs
    · rfl
    · exact ih _ s hs
theorem setSVs_mem (xs : List SV) : ∀ (cs : List SV) (off : Nat) (s : SV), s ∈ setSVs cs off xs → s ∈ cs ∨ s ∈ xs := by
  induction xs with
  | nil => intro cs off s h; exact .inl h
  | cons x r ih =>
    intro cs off s h
    rcases ih _ _ s h with h | h
    · rcases List.mem_or_eq_of_mem_set h with h | rfl
      · exact .inl h
      · exact .inr List.mem_cons_self
    · exact .inr (List.mem_cons_of_mem _ h)
theorem partS_refs {fi : TI} {s : SV} {l : List SV} (h : partS fi s = some l) : ∀ x ∈ l, ∀ i, i ∈ refs0 x → i ∈ refsOf s := by
  intro x hx i hi
  unfold partS at h
  split at h
  · split at h
    · replace h := (cond_some.1 h).2
      injection h with h; subst h
      exact mem_refsL.2 ⟨x, hx, hi⟩
    · replace h := (cond_some.1 h).2
      injection h with h; subst h
      rw [expand_refs1 _ _ _ x hx] at hi; cases hi
    · cases h
  · split at h
    · injection h with h; subst h; simp at hx; subst hx; cases hi
    · injection h with h; subst h; simp at hx; subst hx; exact hi
    · replace h := (cond_some.1 h).2
      injection h with h; subst h; simp at hx; subst hx; cases hi
    · cases h
  · split at h
    · replace h := (cond_some.1 h).2
      injection h with h; subst h; simp at hx; subst hx; cases hi
    · cases h
include hwf in
theorem fillS_there {fields : List (Nat × TypeId)} (ps : List (Nat × Operand)) : ∀ (cs cs' : List SV), (∀ s ∈ cs, ∀ i, i ∈ refs0 s → ∃ ob, st.objs i = some ob) → fillS E st ops L fields ps cs = some cs' → ∀ s ∈ cs', ∀ i, i ∈ refs0 s → ∃ ob, st.objs i = some ob := by
  induction ps with
  | nil => intro cs cs' h hf; injection hf with hf; subst hf; exact h
  | cons p r ih =>
    obtain ⟨j, x⟩ := p
    intro cs cs' h hf
    simp only [fillS] at hf
    obtain ⟨ft, _, hf⟩ := opt_some.1 hf
    obtain ⟨fi, _, hf⟩ := opt_some.1 hf
    obtain ⟨s0, hs0, hf⟩ := opt_some.1 hf
    obtain ⟨l, hl, hf⟩ := opt_some.1 hf
    refine ih _ _ (fun s hs i hi => ?_) hf
    rcases setSVs_mem _ _ _ s hs with hs | hs
    · exact h s hs i hi
    · exact ev_there hwf hs0 i (partS_refs hl s hs i hi)
include hwf in
theorem build_there {t : TypeId} {ps : List (Nat × Operand)} {c : Bool} {v : SV} (h : buildO E st ops L t ps = some (.sv c v)) : There st v := by
  unfold buildO at h
  replace h := opt_some.1 h
  obtain ⟨ti, _, h⟩ := h
  split at h
  · generalize anySlice ti.cells = q at h
    cases q with
    | true =>
      replace h := opt_some.1 h
      obtain ⟨l, hl, h⟩ := h
      generalize allVal l = q at h
      cases q with
      | true =>
        replace h := opt_some.1 h
        obtain ⟨d, _, h⟩ := h
        injection h with h; injection h with h1 h2; subst h2; exact There.val _ _ _
      | false =>
        injection h with h; injection h with h1 h2; subst h2
        intro i hi
        obtain ⟨s, hs, hi⟩ := mem_refsL.1 hi
        exact fillS_there hwf ps _ _ (fun s hs i hi => by rw [zeroSB_refs _ s hs] at hi; cases hi) hl s hs i hi
    | false =>
      replace h := opt_some.1 h
      obtain ⟨cs, _, h⟩ := h
      injection h with h; injection h with h1 h2; subst h2; exact There.val _ _ _
  · cases h

theorem fieldO_there {t : TypeId} {x : Operand} {f : Nat} {c : Bool} {v : SV} (h : fieldO E st ops L t x f = some (.sv c v)) : There st v := by
  unfold fieldO at h
  obtain ⟨ti, ht, h⟩ := opt_some.1 h
  obtain ⟨ft, hft, h⟩ := opt_some.1 h
  obtain ⟨fi, hfi, h⟩ := opt_some.1 h
  obtain ⟨hn, h⟩ := cond_some.1 h
  obtain ⟨s, hs, h⟩ := opt_some.1 h
  split at h
  · have := (cond_some.1 h).2
    injection this with h; injection h with h1 h2; subst h2; exact There.val _ _ _
  · cases h
include hwf in
theorem sv_there {o : Oper} {c : Bool} {v : SV} (h : opO E draw st ops L o = some (.sv c v)) : There st v := by
  unfold opO at h
  split at h
  case h_1 x hx => exact moveO_there hwf h
  case h_2 x hx => exact moveO_there hwf h
  case h_3 x y z hx =>
    unfold pickO at h
    replace h := opt_some.1 h
    obtain ⟨tc, _, h⟩ := h
    replace h := opt_some.1 h
    obtain ⟨sc, _, h⟩ := h
    split at h
    · split at h
      · replace h := (cond_some.1 h).2
        split at h
        · revert h
          generalize (sameTmp tc y) = b1
          generalize (sameTmp tc z) = b2
          intro h
          cases b1 <;> cases b2 <;> (injection h with h; injection h with h1 h2; subst h2; exact There.val _ _ _)
        · injection h with h; injection h with h1 h2; subst h2; exact There.val _ _ _
      · cases h
    · cases h
  case h_4 t hx =>
    unfold allocO at h
    replace h := opt_some.1 h
    obtain ⟨ti, _, h⟩ := h
    exact (withObj_sv h).elim
  case h_5 t x hx =>
    unfold boxO at h
    replace h := opt_some.1 h
    obtain ⟨ti, _, h⟩ := h
    replace h := opt_some.1 h
    obtain ⟨s, _, h⟩ := h
    replace h := opt_some.1 h
    obtain ⟨d, _, h⟩ := h
    exact (withObj_sv h).elim
  case h_6 t ps hx => exact build_there hwf h
  case h_7 t n ps hx =>
    unfold buildSliceO at h
    replace h := opt_some.1 h
    obtain ⟨ti, _, h⟩ := h
    split at h
    · replace h := opt_some.1 h
      obtain ⟨ei, _, h⟩ := h
      replace h := opt_some.1 h
      obtain ⟨ds, _, h⟩ := h
      replace h := cond_some.1 h
      exact (withObj_sv h.2).elim
    · cases h
  case h_8 t x hx =>
    unfold loadO at h
    replace h := opt_some.1 h
    obtain ⟨_, _, h⟩ := h
    replace h := opt_some.1 h
    obtain ⟨_, _, h⟩ := h
    split at h
    · replace h := (cond_some.1 h).2
      injection h with h; injection h with h1 h2; subst h2; exact There.val _ _ _
    · replace h := (cond_some.1 h).2
      split at h
      · rename_i u c' hob
        replace h := (cond_some.1 h).2
        replace h := opt_some.1 h
        obtain ⟨ui, _, h⟩ := h
        replace h := opt_some.1 h
        obtain ⟨v', hv', h⟩ := h
        injection h with h; injection h with h1 h2; subst h2
        exact boxLoad_there hwf hob hv'
      · cases h
    · replace h := (cond_some.1 h).2
      split at h
      · replace h := (cond_some.1 h).2
        replace h := opt_some.1 h
        obtain ⟨_, _, h⟩ := h
        revert h
        generalize (Nat.beq _ _ && _) = b1
        intro h
        cases b1 <;> (injection h with h; injection h with h1 h2; subst h2; exact There.val _ _ _)
      · cases h
    · cases h
  case h_9 t x y hx =>
    exfalso
    unfold storeO at h
    replace h := opt_some.1 h
    obtain ⟨ti, _, h⟩ := h
    replace h := opt_some.1 h
    obtain ⟨s, _, h⟩ := h
    replace h := opt_some.1 h
    obtain ⟨s', _, h⟩ := h
    split at h
    · replace h := cond_some.1 h
      replace h := h.2
      split at h
      · replace h := cond_some.1 h
        replace h := h.2
        replace h := opt_some.1 h
        obtain ⟨ui, _, h⟩ := h
        replace h := opt_some.1 h
        obtain ⟨c', _, h⟩ := h
        cases h
      · cases h
    · replace h := cond_some.1 h
      replace h := h.2
      replace h := opt_some.1 h
      obtain ⟨d, _, h⟩ := h
      split at h
      · replace h := cond_some.1 h
        replace h := h.2
        replace h := opt_some.1 h
        obtain ⟨c', _, h⟩ := h
        revert h
        generalize (Nat.beq _ _ && _) = b1
        generalize (isAggK _) = b2
        intro h
        cases b1 <;> cases b2 <;> cases h
      · cases h
    · cases h
  case h_10 op t x y yt hx =>
    replace h := opt_some.1 h
    obtain ⟨s1, hs1, h⟩ := h
    replace h := opt_some.1 h
    obtain ⟨s2, hs2, h⟩ := h
    unfold binO at h
    split at h
    · revert h
      generalize (isShift op) = b1
      intro h
      cases b1 with
      | true => exact shiftOp_val h
      | false => exact intOp_val (cond_some.1 h).2
    · exact strOp_val h
    · split at h
      · exact boolOp_val (cond_some.1 h).2
      · cases h
    · split at h
      · replace h := (cond_some.1 h).2
        unfold aggOp at h
        cases op <;> first | (cases h; done) | (injection h with h; injection h with h1 h2; subst h2; exact There.val _ _ _)
      · cases h
    · cases h
  case h_11 op t x hx =>
    replace h := opt_some.1 h
    obtain ⟨s1, hs1, h⟩ := h
    unfold unO at h
    split at h
    · injection h with h; injection h with h1 h2; subst h2; exact There.val _ _ _
    · injection h with h; injection h with h1 h2; subst h2; exact There.val _ _ _
    · cases h
  case h_12 s t x hx =>
    unfold convertO at h
    replace h := opt_some.1 h
    obtain ⟨si, hsi, h⟩ := h
    replace h := opt_some.1 h
    obtain ⟨ti, hti, h⟩ := h
    replace h := opt_some.1 h
    obtain ⟨s1, hs1, h⟩ := h
    split at h
    · injection h with h; injection h with h1 h2; subst h2; exact There.val _ _ _
    · injection h with h; injection h with h1 h2; subst h2; exact There.val _ _ _
    · replace h := opt_some.1 (cond_some.1 h).2
      obtain ⟨_, _, h⟩ := h
      replace h := (cond_some.1 h).2
      injection h with h; injection h with h1 h2; subst h2; exact There.val _ _ _
    · split at h
      · replace h := opt_some.1 (cond_some.1 h).2
        obtain ⟨_, _, h⟩ := h
        replace h := (cond_some.1 h).2
        injection h with h; injection h with h1 h2; subst h2; exact There.val _ _ _
      · cases h
    · replace h := opt_some.1 h
      obtain ⟨_, _, h⟩ := h
      replace h := (cond_some.1 h).2
      injection h with h; injection h with h1 h2; subst h2; exact There.val _ _ _
    · replace h := opt_some.1 h
      obtain ⟨ei, hei, h⟩ := h
      exact (withObj_sv (cond_some.1 h).2).elim
    · cases h
  case h_13 t x y hx =>
    unfold makeSliceO at h
    replace h := opt_some.1 h
    obtain ⟨ti, _, h⟩ := h
    replace h := opt_some.1 h
    obtain ⟨n, _, h⟩ := h
    replace h := opt_some.1 h
    obtain ⟨m, _, h⟩ := h
    split at h
    · replace h := opt_some.1 h
      obtain ⟨ei, _, h⟩ := h
      split at h
      · cases h
      · cases h
      · cases h
      · exact (withObj_sv (cond_some.1 h).2).elim
    · cases h
  case h_14 t x lo hi mx hx =>
    unfold sliceO at h
    split at h
    · cases h
    · replace h := opt_some.1 h
      obtain ⟨ti, _, h⟩ := h
      replace h := opt_some.1 h
      obtain ⟨s, _, h⟩ := h
      replace h := opt_some.1 h
      obtain ⟨l, _, h⟩ := h
      replace h := opt_some.1 h
      obtain ⟨hh, _, h⟩ := h
      split at h
      · injection h with h; injection h with h1 h2; subst h2; exact There.val _ _ _
      · replace h := (cond_some.1 h).2
        injection h with h; injection h with h1 h2; subst h2; exact There.val _ _ _
      · split at h
        · cases draw with
          | true => cases h
          | false => replace h := (cond_some.1 (show cond _ _ none = some _ from h)).2; cases h
        · split at h
          · replace h := (cond_some.1 h).2
            injection h with h; injection h with h1 h2; subst h2
            intro i hi
            simp [refsOf, refs0] at hi
            subst hi
            exact ⟨_, by assumption⟩
          · cases h
        · cases h
      · cases h
  case h_15 t x f hx =>
    unfold fieldAddrO at h
    replace h := opt_some.1 h
    obtain ⟨_, _, h⟩ := h
    replace h := opt_some.1 h
    obtain ⟨_, _, h⟩ := h
    replace h := opt_some.1 h
    obtain ⟨_, _, h⟩ := h
    replace h := (cond_some.1 h).2
    replace h := opt_some.1 h
    obtain ⟨s, hs, h⟩ := h
    have ht := ev_there hwf hs
    split at h
    · replace h := (cond_some.1 h).2; injection h with h; injection h with h1 h2; subst h2; intro i hi; cases hi
    · replace h := (cond_some.1 h).2; injection h with h; injection h with h1 h2; subst h2; exact ht
    · replace h := (cond_some.1 h).2; injection h with h; injection h with h1 h2; subst h2; exact ht
    · cases h
  case h_16 t x y hx =>
    unfold indexAddrO at h
    replace h := opt_some.1 h
    obtain ⟨_, _, h⟩ := h
    replace h := opt_some.1 h
    obtain ⟨s, hs, h⟩ := h
    have ht := ev_there hwf hs
    replace h := opt_some.1 h
    obtain ⟨_, _, h⟩ := h
    split at h
    · replace h := (cond_some.1 h).2
      replace h := opt_some.1 h
      obtain ⟨_, _, h⟩ := h
      injection h with h; injection h with h1 h2; subst h2; intro i hi; cases hi
    · split at h
      · replace h := (cond_some.1 h).2
        replace h := opt_some.1 h
        obtain ⟨_, _, h⟩ := h
        injection h with h; injection h with h1 h2; subst h2; exact ht
      · cases h
    · cases h
  case h_17 t x y hx =>
    unfold indexO at h
    replace h := opt_some.1 h
    obtain ⟨_, _, h⟩ := h
    replace h := opt_some.1 h
    obtain ⟨_, _, h⟩ := h
    replace h := opt_some.1 h
    obtain ⟨_, _, h⟩ := h
    split at h
    · injection h with h; injection h with h1 h2; subst h2; exact There.val _ _ _
    · cases h
  case h_18 x hx =>
    replace h := opt_some.1 h
    obtain ⟨s, hs, h⟩ := h
    have ht := ev_there hwf hs
    split at h
    all_goals first | (cases h; done) | (injection h with h; injection h with h1 h2; subst h2; exact ht)
  case h_19 x i hx =>
    replace h := opt_some.1 h
    obtain ⟨s, hs, h⟩ := h
    have ht := ev_there hwf hs
    split at h
    · rename_i l
      split at h
      · cases h
      · cases h
      · rename_i v' hnt hns hv'
        injection h with h; injection h with h1 h2; subst h2
        intro i hi
        refine ht i (mem_refsL.2 ⟨_, List.mem_of_getElem? hv', ?_⟩)
        cases v' with
        | tup t => exact absurd rfl (hnt t)
        | sag t ks l => exact absurd rfl (hns t ks l)
        | _ => exact hi
      · cases h
    · cases h
  case h_20 cl hx =>
    unfold callO at h
    split at h
    · replace h := opt_some.1 h
      obtain ⟨sg, _, h⟩ := h
      rcases callF_out h with ⟨_, _, h⟩ | ⟨_, _, _, h⟩ <;> cases h
    · split at h
      · unfold lenO at h
        replace h := opt_some.1 h
        obtain ⟨_, _, h⟩ := h
        replace h := opt_some.1 h
        obtain ⟨_, _, h⟩ := h
        split at h
        · injection h with h; injection h with h1 h2; subst h2; exact There.val _ _ _
        · injection h with h; injection h with h1 h2; subst h2; exact There.val _ _ _
        · injection h with h; injection h with h1 h2; subst h2; exact There.val _ _ _
        · split at h
          · injection h with h; injection h with h1 h2; subst h2; exact There.val _ _ _
          · cases h
        · cases h
      · cases h
    · exfalso
      split at h
      · unfold appendO at h
        replace h := opt_some.1 h
        obtain ⟨ti, _, h⟩ := h
        replace h := opt_some.1 h
        obtain ⟨xi, _, h⟩ := h
        replace h := opt_some.1 h
        obtain ⟨s1, _, h⟩ := h
        replace h := opt_some.1 h
        obtain ⟨s2, _, h⟩ := h
        split at h
        · replace h := opt_some.1 h
          obtain ⟨ei, _, h⟩ := h
          replace h := cond_some.1 h
          replace h := h.2
          replace h := opt_some.1 h
          obtain ⟨ds, _, h⟩ := h
          split at h
          · exact (withObj_sv h).elim
          · split at h
            · revert h
              generalize Nat.beq _ _ = bb
              intro h
              cases bb with
              | true => cases h
              | false =>
                simp only [cond_false] at h
                split at h
                · replace h := cond_some.1 h
                  replace h := h.2
                  cases h
                · cases h
            · split at h
              · replace h := cond_some.1 h
                replace h := h.2
                cases h
              · cases h
          · cases h
        · cases h
      · cases h
    all_goals first | (cases h; done) | (obtain ⟨_, _, _, _, _, _, _, _, _, h⟩ := clo_out h; cases h; done) | (split at h <;> first | (obtain ⟨_, _, _, _, _, _, _, _, _, _, _, _, _, _, _, _, h⟩ := copyO_inv h; cases h; done) | (cases h; done)) | (
      unfold mmO at h
      split at h
      · cases h
      · replace h := opt_some.1 h
        obtain ⟨_, _, h⟩ := h
        split at h
        · replace h := opt_some.1 h
          obtain ⟨_, _, h⟩ := h
          injection h with h; injection h with h1 h2; subst h2; exact There.val _ _ _
        · cases h)
  case h_21 f fs cs hx =>
    obtain ⟨_, x, id, u, k, _, _, h3, h4⟩ := mkf_out h
    injection h4 with h4 h5
    subst h5
    exact fun i hi => ev_there hwf h3 i hi
  case h_22 t x f hx => exact fieldO_there h
  case h_23 t hx =>
    unfold makeMapO at h
    obtain ⟨ti, _, h⟩ := opt_some.1 h
    split at h
    · obtain ⟨ki, _, h⟩ := opt_some.1 h
      obtain ⟨ei, _, h⟩ := opt_some.1 h
      exact (withObj_sv (cond_some.1 h).2).elim
    · cases h
  case h_24 t m x ok hx => exact fun i hi => by rw [lookupO_refs h] at hi; cases hi
  case h_25 t m x y hx => exact (mapUpdateO_sv h).elim
  case h_26 t m x y hx => exact (mapUpdateO_sv h).elim
  case h_27 => cases h

/-- What an operation's value names, its operands name, or the cells that it looks at. -/
def Dp (st : St) (o : Oper) (i : Nat) : Prop := (∃ t ∈ opdsUses o.op.operands.toList, ∃ s, st.slots t = some s ∧ i ∈ refsOf s) ∨ i ∈ opX st o (opdsUses o.op.operands.toList)
def DpS (st : St) (o : Oper) (v : SV) : Prop := ∀ i, i ∈ refsOf v → Dp st o i
theorem DpS.val (st : St) (o : Oper) (k : KT) (d : D) : DpS st o (.val k d) := fun i hi => by cases hi
def st0 : St := ⟨0, fun _ => none, fun _ => none⟩
theorem DpS.of0 {o : Oper} {v : SV} (h : There st0 v) : DpS st o v := fun i hi => by
  obtain ⟨ob, h⟩ := h i hi
  cases h
theorem ev_dp {o : Oper} {x : Operand} {s : SV} (hx : x ∈ o.op.operands.toList) (h : ev st ops L x = some s) : DpS st o s := by
  intro i hi
  obtain ⟨t, rfl, hts⟩ := ev_refs h hi
  exact .inl ⟨t, opdsUses_mem hx rfl, s, hts, hi⟩
theorem moveO_dp {o : Oper} {x : Operand} {t : TypeId} {c : Bool} {v : SV} (hx : x ∈ o.op.operands.toList) (h : moveO E st ops L x t = some (.sv c v)) : DpS st o v := by
  unfold moveO at h
  split at h
  · replace h := opt_some.1 h
    obtain ⟨ti, _, h⟩ := h
    split at h
    · replace h := opt_some.1 h
      obtain ⟨ds, _, h⟩ := h
      injection h with h; injection h with h1 h2; subst h2; exact DpS.val _ _ _ _
    · cases h
  · replace h := opt_some.1 h
    obtain ⟨s, hs, h⟩ := h
    injection h with h; injection h with h1 h2; subst h2
    exact ev_dp hx hs
theorem fieldO_dp {o : Oper} {t : TypeId} {x : Operand} {f : Nat} {c : Bool} {v : SV} (h : fieldO E st ops L t x f = some (.sv c v)) : DpS st o v := by
  unfold fieldO at h
  obtain ⟨ti, ht, h⟩ := opt_some.1 h
  obtain ⟨ft, hft, h⟩ := opt_some.1 h
  obtain ⟨fi, hfi, h⟩ := opt_some.1 h
  obtain ⟨hn, h⟩ := cond_some.1 h
  obtain ⟨s, hs, h⟩ := opt_some.1 h
  split at h
  · have := (cond_some.1 h).2
    injection this with h; injection h with h1 h2; subst h2; exact DpS.val _ _ _ _
  · cases h
theorem fillS_dp {Q : Nat → Prop} {fields : List (Nat × TypeId)} (ps : List (Nat × Operand)) : (∀ p ∈ ps, ∀ s, ev st ops L p.2 = some s → ∀ i, i ∈ refsOf s → Q i) → ∀ (cs cs' : List SV), (∀ s ∈ cs, ∀ i, i ∈ refs0 s → Q i) → fillS E st ops L fields ps cs = some cs' → ∀ s ∈ cs', ∀ i, i ∈ refs0 s → Q i := by
  induction ps with
  | nil => intro _ cs cs' h hf; injection hf with hf; subst hf; exact h
  | cons p r ih =>
    obtain ⟨j, x⟩ := p
    intro hp cs cs' h hf
    simp only [fillS] at hf
    obtain ⟨ft, _, hf⟩ := opt_some.1 hf
    obtain ⟨fi, _, hf⟩ := opt_some.1 hf
    obtain ⟨s0, hs0, hf⟩ := opt_some.1 hf
    obtain ⟨l, hl, hf⟩ := opt_some.1 hf
    refine ih (fun p hm => hp p (List.mem_cons_of_mem _ hm)) _ _ (fun s hs i hi => ?_) hf
    rcases setSVs_mem _ _ _ s hs with hs | hs
    · exact h s hs i hi
    · exact hp (j, x) List.mem_cons_self _ hs0 i (partS_refs hl s hs i hi)
theorem build_dp {o : Oper} {t : TypeId} {ps : List (Nat × Operand)} {c : Bool} {v : SV} (hx : ∀ p ∈ ps, p.2 ∈ o.op.operands.toList) (h : buildO E st ops L t ps = some (.sv c v)) : DpS st o v := by
  unfold buildO at h
  replace h := opt_some.1 h
  obtain ⟨ti, _, h⟩ := h
  split at h
  · generalize anySlice ti.cells = q at h
    cases q with
    | true =>
      replace h := opt_some.1 h
      obtain ⟨l, hl, h⟩ := h
      generalize allVal l = q at h
      cases q with
      | true =>
        replace h := opt_some.1 h
        obtain ⟨d, _, h⟩ := h
        injection h with h; injection h with h1 h2; subst h2; exact DpS.val _ _ _ _
      | false =>
        injection h with h; injection h with h1 h2; subst h2
        intro i hi
        obtain ⟨s, hs, hi⟩ := mem_refsL.1 hi
        exact fillS_dp (Q := Dp st o) ps (fun p hp s hs => ev_dp (hx p hp) hs) _ _ (fun s hs i hi => by rw [zeroSB_refs _ s hs] at hi; cases hi) hl s hs i hi
    | false =>
      replace h := opt_some.1 h
      obtain ⟨cs, _, h⟩ := h
      injection h with h; injection h with h1 h2; subst h2; exact DpS.val _ _ _ _
  · cases h
theorem xrefs_of {s : SV} {i : Nat} (h : i ∈ refsOf s) : i ∈ xrefs s := by
  cases s with
  | gonel l => cases h
  | _ => exact h
theorem mem_loadXs {i : Nat} {l : List Nat} : i ∈ loadXs st l ↔ ∃ t ∈ l, ∃ s, st.slots t = some s ∧ i ∈ loadX st s := by
  induction l with
  | nil => simp [loadXs]
  | cons t r ih =>
    simp only [loadXs, List.mem_cons, exists_eq_or_imp]
    cases st.slots t with
    | none => simp [ih]
    | some s => simp [ih]
theorem boxLoad_refs {id : Nat} {u : TypeId} {ui : TI} {c : BC} (hob : st.objs id = some (.box u c)) {u' : TypeId} {off : Nat} {k : KT} {v : SV} (h : boxLoad E.tt u ui c off k = some v) : ∀ i, i ∈ refsOf v → i ∈ loadX st (.bptr id u' off k) := by
  intro i hi
  cases c with
  | whole d =>
    simp only [boxLoad] at h
    revert h
    generalize (Nat.beq off 0 && _) = b
    intro h
    cases b <;> (injection h with h; subst h; cases hi)
  | cells l =>
    have key : ∀ k', (match l[off]? with | some (.val k'' d) => cond (KT.eq k' k'') (some (SV.val k' d)) none | some (.tup _) => none | some (.sag _ _ _) => none | some s => some s | none => none) = some v → i ∈ cell1X st id off := by
      intro k' h
      unfold cell1X
      rw [hob]
      simp only
      cases hl : l[off]? with
      | none => rw [hl] at h; cases h
      | some s =>
        rw [hl] at h
        cases s with
        | val k2 d => have := (cond_some.1 h).2; injection this with this; subst this; cases hi
        | tup t => cases h
        | sag _ _ _ => cases h
        | _ => injection h with h; subst h; exact xrefs_of hi
    cases k with
    | agg q =>
      simp only [boxLoad] at h
      cases hq : lk q E.tt with
      | none => rw [hq] at h; cases h
      | some tu =>
        rw [hq] at h
        simp only [Option.map_eq_some_iff] at h
        obtain ⟨ds, _, rfl⟩ := h
        cases hi
    | _ => exact key _ h
theorem boxLoad_dp {o : Oper} {t : TypeId} {x : Operand} (hx : o.op = .load t x) {id : Nat} {u : TypeId} {ui : TI} {c : BC} {u' : TypeId} {off : Nat} {k : KT} (hs : ev st ops L x = some (.bptr id u' off k)) (hob : st.objs id = some (.box u c)) {v : SV} (h : boxLoad E.tt u ui c off k = some v) : DpS st o v := by
  intro i hi
  obtain ⟨t', rfl, hts⟩ := ev_refs (i := id) hs (by simp [refsOf, refs0])
  refine .inr ?_
  unfold opX
  rw [hx]
  exact mem_loadXs.2 ⟨t', opdsUses_mem (x := .tmp t') (by simp [Op.operands]) rfl, _, hts, boxLoad_refs hob h i hi⟩
theorem sv_deep {o : Oper} {c : Bool} {v : SV} (h : opO E true st ops L o = some (.sv c v)) : DpS st o v := by
  unfold opO at h
  split at h
  case h_1 x hx => exact moveO_dp (by simp [hx, Op.operands]) h
  case h_2 x hx => exact moveO_dp (by simp [hx, Op.operands]) h
  case h_3 x y z hx =>
    unfold pickO at h
    replace h := opt_some.1 h
    obtain ⟨tc, _, h⟩ := h
    replace h := opt_some.1 h
    obtain ⟨sc, _, h⟩ := h
    split at h
    · split at h
      · replace h := (cond_some.1 h).2
        split at h
        · revert h
          generalize (sameTmp tc y) = b1
          generalize (sameTmp tc z) = b2
          intro h
          cases b1 <;> cases b2 <;> (injection h with h; injection h with h1 h2; subst h2; exact DpS.val _ _ _ _)
        · injection h with h; injection h with h1 h2; subst h2; exact DpS.val _ _ _ _
      · cases h
    · cases h
  case h_4 t hx =>
    unfold allocO at h
    replace h := opt_some.1 h
    obtain ⟨ti, _, h⟩ := h
    exact (withObj_sv h).elim
  case h_5 t x hx =>
    unfold boxO at h
    replace h := opt_some.1 h
    obtain ⟨ti, _, h⟩ := h
    replace h := opt_some.1 h
    obtain ⟨s, _, h⟩ := h
    replace h := opt_some.1 h
    obtain ⟨d, _, h⟩ := h
    exact (withObj_sv h).elim
  case h_6 t ps hx => exact build_dp (fun p hp => by simp only [hx, Op.operands, Array.toList_map, List.mem_map]; exact ⟨p, hp, rfl⟩) h
  case h_7 t n ps hx =>
    unfold buildSliceO at h
    replace h := opt_some.1 h
    obtain ⟨ti, _, h⟩ := h
    split at h
    · replace h := opt_some.1 h
      obtain ⟨ei, _, h⟩ := h
      replace h := opt_some.1 h
      obtain ⟨ds, _, h⟩ := h
      replace h := cond_some.1 h
      exact (withObj_sv h.2).elim
    · cases h
  case h_8 t x hx =>
    unfold loadO at h
    replace h := opt_some.1 h
    obtain ⟨_, _, h⟩ := h
    replace h := opt_some.1 h
    obtain ⟨s8, hs8, h⟩ := h
    split at h
    · replace h := (cond_some.1 h).2
      injection h with h; injection h with h1 h2; subst h2; exact DpS.val _ _ _ _
    · replace h := (cond_some.1 h).2
      split at h
      · rename_i u c' hob
        replace h := (cond_some.1 h).2
        replace h := opt_some.1 h
        obtain ⟨ui, _, h⟩ := h
        replace h := opt_some.1 h
        obtain ⟨v', hv', h⟩ := h
        injection h with h; injection h with h1 h2; subst h2
        exact boxLoad_dp hx hs8 hob hv'
      · cases h
    · replace h := (cond_some.1 h).2
      split at h
      · replace h := (cond_some.1 h).2
        replace h := opt_some.1 h
        obtain ⟨_, _, h⟩ := h
        revert h
        generalize (Nat.beq _ _ && _) = b1
        intro h
        cases b1 <;> (injection h with h; injection h with h1 h2; subst h2; exact DpS.val _ _ _ _)
      · cases h
    · cases h
  case h_9 t x y hx =>
    exfalso
    unfold storeO at h
    replace h := opt_some.1 h
    obtain ⟨ti, _, h⟩ := h
    replace h := opt_some.1 h
    obtain ⟨s, _, h⟩ := h
    replace h := opt_some.1 h
    obtain ⟨s', _, h⟩ := h
    split at h
    · replace h := cond_some.1 h
      replace h := h.2
      split at h
      · replace h := cond_some.1 h
        replace h := h.2
        replace h := opt_some.1 h
        obtain ⟨ui, _, h⟩ := h
        replace h := opt_some.1 h
        obtain ⟨c', _, h⟩ := h
        cases h
      · cases h
    · replace h := cond_some.1 h
      replace h := h.2
      replace h := opt_some.1 h
      obtain ⟨d, _, h⟩ := h
      split at h
      · replace h := cond_some.1 h
        replace h := h.2
        replace h := opt_some.1 h
        obtain ⟨c', _, h⟩ := h
        revert h
        generalize (Nat.beq _ _ && _) = b1
        generalize (isAggK _) = b2
        intro h
        cases b1 <;> cases b2 <;> cases h
      · cases h
    · cases h
  case h_10 op t x y yt hx =>
    replace h := opt_some.1 h
    obtain ⟨s1, hs1, h⟩ := h
    replace h := opt_some.1 h
    obtain ⟨s2, hs2, h⟩ := h
    unfold binO at h
    split at h
    · revert h
      generalize (isShift op) = b1
      intro h
      cases b1 with
      | true => exact .of0 (shiftOp_val (st := st0) h)
      | false => exact .of0 (intOp_val (st := st0) (cond_some.1 h).2)
    · exact .of0 (strOp_val (st := st0) h)
    · split at h
      · exact .of0 (boolOp_val (st := st0) (cond_some.1 h).2)
      · cases h
    · split at h
      · replace h := (cond_some.1 h).2
        unfold aggOp at h
        cases op <;> first | (cases h; done) | (injection h with h; injection h with h1 h2; subst h2; exact DpS.val _ _ _ _)
      · cases h
    · cases h
  case h_11 op t x hx =>
    replace h := opt_some.1 h
    obtain ⟨s1, hs1, h⟩ := h
    unfold unO at h
    split at h
    · injection h with h; injection h with h1 h2; subst h2; exact DpS.val _ _ _ _
    · injection h with h; injection h with h1 h2; subst h2; exact DpS.val _ _ _ _
    · cases h
  case h_12 s t x hx =>
    unfold convertO at h
    replace h := opt_some.1 h
    obtain ⟨si, hsi, h⟩ := h
    replace h := opt_some.1 h
    obtain ⟨ti, hti, h⟩ := h
    replace h := opt_some.1 h
    obtain ⟨s1, hs1, h⟩ := h
    split at h
    · injection h with h; injection h with h1 h2; subst h2; exact DpS.val _ _ _ _
    · injection h with h; injection h with h1 h2; subst h2; exact DpS.val _ _ _ _
    · replace h := opt_some.1 (cond_some.1 h).2
      obtain ⟨_, _, h⟩ := h
      replace h := (cond_some.1 h).2
      injection h with h; injection h with h1 h2; subst h2; exact DpS.val _ _ _ _
    · split at h
      · replace h := opt_some.1 (cond_some.1 h).2
        obtain ⟨_, _, h⟩ := h
        replace h := (cond_some.1 h).2
        injection h with h; injection h with h1 h2; subst h2; exact DpS.val _ _ _ _
      · cases h
    · replace h := opt_some.1 h
      obtain ⟨_, _, h⟩ := h
      replace h := (cond_some.1 h).2
      injection h with h; injection h with h1 h2; subst h2; exact DpS.val _ _ _ _
    · replace h := opt_some.1 h
      obtain ⟨ei, hei, h⟩ := h
      exact (withObj_sv (cond_some.1 h).2).elim
    · cases h
  case h_13 t x y hx =>
    unfold makeSliceO at h
    replace h := opt_some.1 h
    obtain ⟨ti, _, h⟩ := h
    replace h := opt_some.1 h
    obtain ⟨n, _, h⟩ := h
    replace h := opt_some.1 h
    obtain ⟨m, _, h⟩ := h
    split at h
    · replace h := opt_some.1 h
      obtain ⟨ei, _, h⟩ := h
      split at h
      · cases h
      · cases h
      · cases h
      · exact (withObj_sv (cond_some.1 h).2).elim
    · cases h
  case h_14 t x lo hi mx hx =>
    unfold sliceO at h
    split at h
    · cases h
    · replace h := opt_some.1 h
      obtain ⟨ti, _, h⟩ := h
      replace h := opt_some.1 h
      obtain ⟨s, _, h⟩ := h
      replace h := opt_some.1 h
      obtain ⟨l, _, h⟩ := h
      replace h := opt_some.1 h
      obtain ⟨hh, _, h⟩ := h
      split at h
      · injection h with h; injection h with h1 h2; subst h2; exact DpS.val _ _ _ _
      · replace h := (cond_some.1 h).2
        injection h with h; injection h with h1 h2; subst h2; exact DpS.val _ _ _ _
      · have ht := ev_dp (o := o) (x := x) (by simp [hx, Op.operands]) (by assumption)
        split at h
        · cases h
        · split at h
          · replace h := (cond_some.1 h).2
            injection h with h; injection h with h1 h2; subst h2
            exact ht
          · cases h
        · cases h
      · cases h
  case h_15 t x f hx =>
    unfold fieldAddrO at h
    replace h := opt_some.1 h
    obtain ⟨_, _, h⟩ := h
    replace h := opt_some.1 h
    obtain ⟨_, _, h⟩ := h
    replace h := opt_some.1 h
    obtain ⟨_, _, h⟩ := h
    replace h := (cond_some.1 h).2
    replace h := opt_some.1 h
    obtain ⟨s, hs, h⟩ := h
    have ht := ev_dp (o := o) (by simp [hx, Op.operands]) hs
    split at h
    · replace h := (cond_some.1 h).2; injection h with h; injection h with h1 h2; subst h2; intro i hi; cases hi
    · replace h := (cond_some.1 h).2; injection h with h; injection h with h1 h2; subst h2; exact ht
    · replace h := (cond_some.1 h).2; injection h with h; injection h with h1 h2; subst h2; exact ht
    · cases h
  case h_16 t x y hx =>
    unfold indexAddrO at h
    replace h := opt_some.1 h
    obtain ⟨_, _, h⟩ := h
    replace h := opt_some.1 h
    obtain ⟨s, hs, h⟩ := h
    have ht := ev_dp (o := o) (by simp [hx, Op.operands]) hs
    replace h := opt_some.1 h
    obtain ⟨_, _, h⟩ := h
    split at h
    · replace h := (cond_some.1 h).2
      replace h := opt_some.1 h
      obtain ⟨_, _, h⟩ := h
      injection h with h; injection h with h1 h2; subst h2; intro i hi; cases hi
    · split at h
      · replace h := (cond_some.1 h).2
        replace h := opt_some.1 h
        obtain ⟨_, _, h⟩ := h
        injection h with h; injection h with h1 h2; subst h2; exact ht
      · cases h
    · cases h
  case h_17 t x y hx =>
    unfold indexO at h
    replace h := opt_some.1 h
    obtain ⟨_, _, h⟩ := h
    replace h := opt_some.1 h
    obtain ⟨_, _, h⟩ := h
    replace h := opt_some.1 h
    obtain ⟨_, _, h⟩ := h
    split at h
    · injection h with h; injection h with h1 h2; subst h2; exact DpS.val _ _ _ _
    · cases h
  case h_18 x hx =>
    replace h := opt_some.1 h
    obtain ⟨s, hs, h⟩ := h
    have ht := ev_dp (o := o) (by simp [hx, Op.operands]) hs
    split at h
    all_goals first | (cases h; done) | (injection h with h; injection h with h1 h2; subst h2; exact ht)
  case h_19 x i hx =>
    replace h := opt_some.1 h
    obtain ⟨s, hs, h⟩ := h
    have ht := ev_dp (o := o) (by simp [hx, Op.operands]) hs
    split at h
    · rename_i l
      split at h
      · cases h
      · cases h
      · rename_i v' hnt hns hv'
        injection h with h; injection h with h1 h2; subst h2
        intro i hi
        refine ht i (mem_refsL.2 ⟨_, List.mem_of_getElem? hv', ?_⟩)
        cases v' with
        | tup t => exact absurd rfl (hnt t)
        | sag t ks l => exact absurd rfl (hns t ks l)
        | _ => exact hi
      · cases h
    · cases h
  case h_20 cl hx =>
    unfold callO at h
    split at h
    · replace h := opt_some.1 h
      obtain ⟨sg, _, h⟩ := h
      rcases callF_out h with ⟨_, _, h⟩ | ⟨_, _, _, h⟩ <;> cases h
    · split at h
      · unfold lenO at h
        replace h := opt_some.1 h
        obtain ⟨_, _, h⟩ := h
        replace h := opt_some.1 h
        obtain ⟨_, _, h⟩ := h
        split at h
        · injection h with h; injection h with h1 h2; subst h2; exact DpS.val _ _ _ _
        · injection h with h; injection h with h1 h2; subst h2; exact DpS.val _ _ _ _
        · injection h with h; injection h with h1 h2; subst h2; exact DpS.val _ _ _ _
        · split at h
          · injection h with h; injection h with h1 h2; subst h2; exact DpS.val _ _ _ _
          · cases h
        · cases h
      · cases h
    · exfalso
      split at h
      · unfold appendO at h
        replace h := opt_some.1 h
        obtain ⟨ti, _, h⟩ := h
        replace h := opt_some.1 h
        obtain ⟨xi, _, h⟩ := h
        replace h := opt_some.1 h
        obtain ⟨s1, _, h⟩ := h
        replace h := opt_some.1 h
        obtain ⟨s2, _, h⟩ := h
        split at h
        · replace h := opt_some.1 h
          obtain ⟨ei, _, h⟩ := h
          replace h := cond_some.1 h
          replace h := h.2
          replace h := opt_some.1 h
          obtain ⟨ds, _, h⟩ := h
          split at h
          · exact (withObj_sv h).elim
          · split at h
            · revert h
              generalize Nat.beq _ _ = bb
              intro h
              cases bb with
              | true => cases h
              | false =>
                simp only [cond_false] at h
                split at h
                · replace h := cond_some.1 h
                  replace h := h.2
                  cases h
                · cases h
            · split at h
              · replace h := cond_some.1 h
                replace h := h.2
                cases h
              · cases h
          · cases h
        · cases h
      · cases h
    all_goals first | (cases h; done) | (obtain ⟨_, _, _, _, _, _, _, _, _, h⟩ := clo_out h; cases h; done) | (split at h <;> first | (obtain ⟨_, _, _, _, _, _, _, _, _, _, _, _, _, _, _, _, h⟩ := copyO_inv h; cases h; done) | (cases h; done)) | (
      unfold mmO at h
      split at h
      · cases h
      · replace h := opt_some.1 h
        obtain ⟨_, _, h⟩ := h
        split at h
        · replace h := opt_some.1 h
          obtain ⟨_, _, h⟩ := h
          injection h with h; injection h with h1 h2; subst h2; exact DpS.val _ _ _ _
        · cases h)
  case h_21 f fs cs hx => cases h
  case h_22 t x f hx => exact fieldO_dp h
  case h_23 t hx =>
    unfold makeMapO at h
    obtain ⟨ti, _, h⟩ := opt_some.1 h
    split at h
    · obtain ⟨ki, _, h⟩ := opt_some.1 h
      obtain ⟨ei, _, h⟩ := opt_some.1 h
      exact (withObj_sv (cond_some.1 h).2).elim
    · cases h
  case h_24 t m x ok hx => exact fun i hi => by rw [lookupO_refs h] at hi; cases hi
  case h_25 t m x y hx => exact (mapUpdateO_sv h).elim
  case h_26 t m x y hx => exact (mapUpdateO_sv h).elim
  case h_27 => cases h

end
end Go.Proofs.YtcmeincdmphaoaaDoor.DS
