/- What is done ahead of a region: rows are frozen, rows are named anew. -/
import Derived.Test.YtjofkhdnidjleabDoorDsZ
set_option linter.unusedVariables false
set_option linter.unusedSimpArgs false
namespace Go.Proofs.YtjofkhdnidjleabDoor.DS

section
variable {P : Program} {E : Env} {X : Nat → Prop} {w0 : World} {Mx : Mem} {pv : Nat → Option Value}

/-- Memory, a block's cells being data now. -/
def addBlock (M : Mem) (b : Nat) (cur : Array Value) : Mem := fun ad => match M ad with
  | some v => some v
  | none => if ad.block = b ∧ ad.spot = none then cur[ad.off]? else none

theorem addBlock_sub {M : Mem} {b : Nat} {cur : Array Value} {ad : Addr} {v : Value} (h : M ad = some v) : addBlock M b cur ad = some v := by
  simp only [addBlock, h]
theorem addBlock_other {M : Mem} {b : Nat} {cur : Array Value} {ad : Addr} (h : ad.block ≠ b) : addBlock M b cur ad = M ad := by
  simp only [addBlock]
  cases M ad with
  | some v => rfl
  | none => simp [h]

/-- A row that is data: its handle holds the data. -/
theorem frz_rep {tt : TT} {M : Mem} {w : World} {e : TypeId} {ei : TI} (he : lk e tt = some ei) {v : Value} {es : List D} (h : ArrRel tt M w ei v es) (hfree : ∀ b, blockOf v = some b → ∀ off sp, M ⟨b, off, sp⟩ = none) :
    ∃ M', (∀ ad x, M ad = some x → M' ad = some x) ∧ (∀ ad, blockOf v ≠ some ad.block → M' ad = M ad) ∧ (∀ ad x, M' ad = some x → M ad = some x ∨ w.cell? ad = some x) ∧ Rep tt M' (.slice e) v (.list es) := by
  rcases h with ⟨rfl, rfl⟩ | ⟨b, cap, cur, t, fr, vs, rfl, hh, h3, h4, h5, _, h7⟩
  · exact ⟨M, fun _ _ h => h, fun _ _ => rfl, fun _ _ h => .inl h, .nil e none 0 (Nat.zero_le _)⟩
  · refine ⟨addBlock M b cur, fun _ _ h => addBlock_sub h, fun ad h => addBlock_other (fun e => h (by rw [← e]; rfl)), ?_, ?_⟩
    · intro ad x hx
      simp only [addBlock] at hx
      cases hm : M ad with
      | some v => rw [hm] at hx; exact .inl hx
      | none =>
        rw [hm] at hx
        simp only at hx
        split at hx
        · rename_i hc
          obtain ⟨h1, h2⟩ := hc
          right
          cases ad with
          | mk bb off sp =>
            simp only at h1 h2 hx
            subst h1 h2
            simpa [World.cell?, hh] using hx
        · cases hx
    · cases es with
      | nil => exact .nil e _ cap h4
      | cons x r =>
        refine .slice e ei ⟨b, 0, none⟩ cap (x :: r) (fun i => vs i) (by simp) h3 h4 he rfl (fun i hi => (h7 i hi).1) ?_ (fun i hi => ((h7 i hi).2.2).mono (fun _ _ h => addBlock_sub h))
        intro i j u hi hu
        have := (h7 i hi).2.1 j u hu
        simp only [addBlock, Nat.zero_add]
        rw [hfree b rfl]
        simp only [and_self, if_true]
        exact this

theorem frzCells_get (id : Nat) (e : TypeId) (es : List D) (l : List SV) (i : Nat) : (frzCells id e es l)[i]? = (l[i]?).map (frzSV0 id e es) := by
  induction l generalizing i with
  | nil => simp [frzCells]
  | cons s r ih => cases i <;> simp [frzCells, ih]
theorem frzCells_length (id : Nat) (e : TypeId) (es : List D) (l : List SV) : (frzCells id e es l).length = l.length := by
  induction l with
  | nil => rfl
  | cons s r ih => simp [frzCells, ih]
theorem refsOf_frz0 {id : Nat} {e : TypeId} {es : List D} {s : SV} {i : Nat} (h : i ∈ refsOf (frzSV0 id e es s)) : i ∈ refsOf s ∧ i ≠ id := by
  unfold frzSV0 at h
  split at h
  · rename_i j
    cases hb : Nat.beq j id with
    | true => rw [hb] at h; cases h
    | false =>
      rw [hb] at h
      simp only [cond_false, refsOf, refs0, List.mem_singleton] at h
      subst h
      exact ⟨by simp [refsOf, refs0], beq_false.1 hb⟩
  · cases h
  · cases hn : s.names id with
    | true => rw [hn] at h; cases h
    | false =>
      rw [hn] at h
      refine ⟨h, fun e => ?_⟩
      subst e
      exact memN_false hn h
theorem refs0_frz {id : Nat} {e : TypeId} {es : List D} {s : SV} {i : Nat} (h : i ∈ refs0 (frzSV0 id e es s)) : i ∈ refs0 s ∧ i ≠ id := by
  have := refsOf_frz0 (refs_of_refs0 h)
  refine ⟨?_, this.2⟩
  cases s with
  | tup l =>
    exfalso
    unfold frzSV0 at h
    simp only at h
    cases hn : (SV.tup l).names id with
    | true => rw [hn] at h; cases h
    | false => rw [hn] at h; cases h
  | sag t ks l =>
    exfalso
    unfold frzSV0 at h
    simp only at h
    cases hn : (SV.sag t ks l).names id with
    | true => rw [hn] at h; cases h
    | false => rw [hn] at h; cases h
  | _ => exact this.1
theorem refs_frz {id : Nat} {e : TypeId} {es : List D} {s : SV} {i : Nat} (h : i ∈ refsOf (frzSV id e es s)) : i ∈ refsOf s ∧ i ≠ id := by
  cases s with
  | sag t ks l =>
    obtain ⟨s1, hs1, hi⟩ := mem_refsL.1 (show i ∈ refsL (frzCells id e es l) from h)
    obtain ⟨n, hn⟩ := List.mem_iff_getElem?.1 hs1
    rw [frzCells_get, Option.map_eq_some_iff] at hn
    obtain ⟨s0, hs0, rfl⟩ := hn
    obtain ⟨h1, h2⟩ := refs0_frz hi
    exact ⟨mem_refsL.2 ⟨s0, List.mem_of_getElem? hs0, h1⟩, h2⟩
  | _ => exact refsOf_frz0 (e := e) (es := es) h
theorem frz_rel0 {tt : TT} {ι : Nat → Value} {M M' : Mem} {id : Nat} {e : TypeId} {es : List D} {s : SV} {v : Value} (h : SVRel0 tt ι M s v) (hM : ∀ ad x, M ad = some x → M' ad = some x) (hr : Rep tt M' (.slice e) (ι id) (.list es)) : SVRel0 tt ι M' (frzSV0 id e es s) v := by
  have hgen : SVRel0 tt ι M' (cond (s.names id) .gone s) v := by
    cases s.names id with
    | true => trivial
    | false => exact h.congr (fun _ _ => rfl) hM
  cases s with
  | own j =>
    simp only [frzSV0]
    cases hb : Nat.beq j id with
    | true =>
      have := beq_iff.1 hb
      subst this
      obtain ⟨rfl, _⟩ : v = ι j ∧ _ := h
      exact hr
    | false => exact h.congr (fun _ _ => rfl) hM
  | val k d => exact h.congr (fun _ _ => rfl) hM
  | _ => exact hgen
theorem frz_rel {tt : TT} {ι : Nat → Value} {M M' : Mem} {id : Nat} {e : TypeId} {es : List D} {s : SV} {v : Value} (h : SVRel tt ι M s v) (hM : ∀ ad x, M ad = some x → M' ad = some x) (hr : Rep tt M' (.slice e) (ι id) (.list es)) : SVRel tt ι M' (frzSV id e es s) v := by
  have hgen : SVRel tt ι M' (cond (s.names id) .gone s) v := by
    cases s.names id with
    | true => trivial
    | false => exact h.congr (fun _ _ => rfl) hM
  cases s with
  | own j => exact .of0 (frz_rel0 (s := .own j) h hM hr)
  | val k d => exact h.congr (fun _ _ => rfl) hM
  | sag t ks l =>
    obtain ⟨ti, vs, h1, h2, h3, h4, h5, h6, h7⟩ := h
    refine ⟨ti, vs, h1, h2, h3, h4, by rw [frzCells_length]; exact h5, by rw [frzCells_length]; exact h6, fun i s x hs hx => ?_⟩
    rw [frzCells_get, Option.map_eq_some_iff] at hs
    obtain ⟨s0, hs0, rfl⟩ := hs
    exact frz_rel0 (h7 i s0 x hs0 hx) hM hr
  | _ => exact hgen
theorem frz_obj {tt : TT} {ι : Nat → Value} {M M' : Mem} {w : World} {id : Nat} {e : TypeId} {es : List D} {i : Nat} {o : Obj} (h : ObjRel tt ι M w i o) (hM : ∀ ad x, M ad = some x → M' ad = some x) (hr : Rep tt M' (.slice e) (ι id) (.list es)) : ObjRel tt ι M' w i (frzObj id e es o) := by
  have hc := h.congr (ι' := ι) (M' := M') (w' := w) rfl (fun _ _ => rfl) hM (fun _ _ => rfl)
  cases o with
  | arr e es => exact hc
  | box t c =>
    cases c with
    | whole d => exact hc
    | cells l =>
      obtain ⟨ti, b, cs, h1, h2, h3, h5, h6, h7⟩ := h
      refine ⟨ti, b, cs, h1, h2, h3, h5, by rw [frzCells_length]; exact h6, fun j s c hs hcj => ?_⟩
      rw [frzCells_get, Option.map_eq_some_iff] at hs
      obtain ⟨s0, hs0, rfl⟩ := hs
      exact frz_rel0 (h7 j s0 c hs0 hcj) hM hr

theorem freeze_sound {st st' : St} {a : Act} {w : World} (h : SI E X w0 Mx pv st a w) {id : Nat} (hf : st.freeze id = some st') : SI E X w0 Mx pv st' a w := by
  unfold St.freeze at hf
  cases ho : st.objs id with
  | none => rw [ho] at hf; cases hf
  | some o =>
    cases o with
    | box t c => rw [ho] at hf; cases hf
    | arr e es =>
      rw [ho] at hf
      injection hf with hf; subst hf
      obtain ⟨⟨ι, M, H, hs⟩, hwf, hsz, hdf, hpin⟩ := h
      obtain ⟨ei, he, _, har⟩ := H.obj id _ ho
      obtain ⟨M', hM, hMo, hMc, hr⟩ := frz_rep he har (fun b hb off sp => (H.own id _ b ho hb).2 off sp)
      have hobj : ∀ i o', put (fun i => omap (frzObj id e es) (st.objs i)) id none i = some o' → i ≠ id ∧ ∃ o, st.objs i = some o ∧ o' = frzObj id e es o := by
        intro i o' h
        by_cases hi : i = id
        · subst hi; rw [put_same] at h; cases h
        · rw [put_other _ _ _ hi] at h
          cases hob : st.objs i with
          | none => rw [hob] at h; cases h
          | some o => rw [hob] at h; injection h with h; exact ⟨hi, o, rfl, h.symm⟩
      have hin : ∀ i o, i ≠ id → st.objs i = some o → ∃ o', put (fun i => omap (frzObj id e es) (st.objs i)) id none i = some o' := by
        intro i o hi ho'
        rw [put_other _ _ _ hi, ho']; exact ⟨_, rfl⟩
      refine ⟨⟨ι, M', ⟨?_, ?_, ?_, ?_, fun ad v h => hM ad v (H.memx ad v h), ?_, H.os, H.tape, H.output, H.size, H.keep⟩, ?_⟩, ⟨?_, ?_⟩, hsz, hdf, hpin⟩
      · intro i o' h
        obtain ⟨hi, o, ho', rfl⟩ := hobj i o' h
        exact frz_obj (H.obj i o ho') hM hr
      · intro i j oi oj b hi hj hij hbi hbj
        obtain ⟨_, o1, h1, _⟩ := hobj i oi hi
        obtain ⟨_, o2, h2, _⟩ := hobj j oj hj
        exact H.disj i j o1 o2 b h1 h2 hij hbi hbj
      · intro i o' b h hb
        obtain ⟨hi, o, ho', _⟩ := hobj i o' h
        obtain ⟨q1, q2⟩ := H.own i o b ho' hb
        refine ⟨q1, fun off sp => ?_⟩
        rw [hMo ⟨b, off, sp⟩ (fun e => H.disj i id o _ b ho' ho hi hb e)]
        exact q2 off sp
      · intro ad v hv
        rcases hMc ad v hv with h | h
        · exact H.mem ad v h
        · exact h
      · intro ad hb hX
        rw [hMo ad (fun e => ?_)]
        · exact H.memB ad hb hX
        · rcases (H.own id _ ad.block ho e).1 with h | h
          · omega
          · exact hX h
      · intro t s ht
        simp only at ht
        cases hst : st.slots t with
        | none => rw [hst] at ht; cases ht
        | some s0 =>
          rw [hst] at ht; injection ht with ht; subst ht
          exact frz_rel (hs t s0 hst) hM hr
      · intro t s ht i hi
        simp only at ht ⊢
        cases hst : st.slots t with
        | none => rw [hst] at ht; cases ht
        | some s0 =>
          rw [hst] at ht; injection ht with ht; subst ht
          obtain ⟨h1, h2⟩ := refs_frz hi
          obtain ⟨o, ho'⟩ := hwf.slots t s0 hst i h1
          exact hin i o h2 ho'
      · intro j o' hj i hi
        obtain ⟨hji, o, ho', rfl⟩ := hobj j o' hj
        have : i ∈ objRefs0 o ∧ i ≠ id := by
          cases o with
          | arr _ _ => cases hi
          | box t c =>
            cases c with
            | whole d => cases hi
            | cells l =>
              obtain ⟨s, hs1, hi⟩ := mem_refsL.1 hi
              obtain ⟨n, hn⟩ := List.mem_iff_getElem?.1 hs1
              rw [frzCells_get, Option.map_eq_some_iff] at hn
              obtain ⟨s0, hs0, rfl⟩ := hn
              obtain ⟨h1, h2⟩ := refs0_frz hi
              exact ⟨mem_refsL.2 ⟨s0, List.mem_of_getElem? hs0, h1⟩, h2⟩
        obtain ⟨o2, ho2⟩ := hwf.cells j o ho' i this.1
        exact hin i o2 this.2 ho2

theorem frzAll_sound {a : Act} {w : World} : ∀ (l : List Nat) (st st' : St), SI E X w0 Mx pv st a w → frzAll l st = some st' → SI E X w0 Mx pv st' a w := by
  intro l
  induction l with
  | nil => intro st st' h hf; injection hf with hf; subst hf; exact h
  | cons id r ih =>
    intro st st' h hf
    obtain ⟨st1, h1, hf⟩ := opt_some.1 hf
    exact ih st1 st' (freeze_sound h h1) hf

end
end Go.Proofs.YtjofkhdnidjleabDoor.DS
