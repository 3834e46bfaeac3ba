/- Boxes and rows that are handed over: the caller's side. -/
import Derived.Test.YtjofkhdnidjleabDoorDsW
set_option linter.unusedVariables false
set_option linter.unusedSimpArgs false
namespace Go.Proofs.YtjofkhdnidjleabDoor.DS

theorem nodupL_iff {l : List Nat} : nodupL l = true ↔ l.Nodup := by
  induction l with
  | nil => simp [nodupL]
  | cons x r ih =>
    simp only [nodupL, List.nodup_cons]
    cases h : memN x r with
    | true => simp [memN_iff.1 h]
    | false => simp [ih, memN_false h]
theorem lk_keysN {α : Type} {i : Nat} {l : List (Nat × α)} : (∃ o, lk i l = some o) ↔ i ∈ keysN l := by
  induction l with
  | nil => simp [lk, keysN]
  | cons p r ih =>
    obtain ⟨t, x⟩ := p
    simp only [lk, keysN, List.mem_cons]
    cases h : Nat.beq i t with
    | true => simp [beq_iff.1 h]
    | false => simp [ih, beq_false.1 h]
theorem lk_app {α : Type} {i : Nat} {l m : List (Nat × α)} : lk i (l ++ m) = match lk i l with | some x => some x | none => lk i m := by
  induction l with
  | nil => rfl
  | cons p r ih =>
    obtain ⟨t, x⟩ := p
    simp only [List.cons_append, lk]
    cases h : Nat.beq i t with
    | true => rfl
    | false => simp only [cond_false]; exact ih
theorem omap_some {α β : Type} {f : α → β} {x : Option α} {b : β} : omap f x = some b ↔ ∃ a, x = some a ∧ b = f a := by
  cases x with
  | none => simp [omap]
  | some a => simp [omap, eq_comm]

section
variable {tt : TT} {X : Nat → Prop} {w0 w : World} {Mx : Mem} {ι : Nat → Value} {M : Mem}

/-- What is left of a state whose row has been handed over. -/
structure Dropped (tt : TT) (X : Nat → Prop) (w0 : World) (Mx : Mem) (ι : Nat → Value) (M : Mem) (w : World) (rows : List Nat) (st st' : St) : Prop where
  rel : HRel tt X w0 Mx ι M st'.objs w
  wf : WF st'
  n : st'.n = st.n
  slots : ∀ t s1, st'.slots t = some s1 → ∃ s0, st.slots t = some s0 ∧ ∀ v0, SVRel tt ι M s0 v0 → SVRel tt ι M s1 v0
  there : ∀ i o', st'.objs i = some o' → i ∉ rows ∧ ∃ o, st.objs i = some o
  kept : ∀ i, i ∉ rows → (∃ o, st.objs i = some o) → ∃ o, st'.objs i = some o

theorem drop_one {st : St} (H : HRel tt X w0 Mx ι M st.objs w) (hwf : WF st) (id : Nat) : Dropped tt X w0 Mx ι M w [id] st (st.dropRow id) := by
  have hobj : ∀ i o', (st.dropRow id).objs i = some o' → i ≠ id ∧ ∃ o, st.objs i = some o ∧ o' = scrubObj id o := by
    intro i o' h
    by_cases hi : i = id
    · subst hi; simp [St.dropRow, put_same] at h
    · simp only [St.dropRow, put_other _ _ _ hi] at h
      exact ⟨hi, omap_some.1 h⟩
  have hin : ∀ i o, i ≠ id → st.objs i = some o → ∃ o', (st.dropRow id).objs i = some o' := by
    intro i o hi ho
    exact ⟨scrubObj id o, by simp only [St.dropRow, put_other _ _ _ hi, ho, omap]⟩
  refine ⟨⟨?_, ?_, ?_, H.mem, H.memx, H.memB, H.os, H.tape, H.output, H.size, H.keep⟩, ⟨?_, ?_⟩, rfl, ?_, ?_, ?_⟩
  · intro i o' h
    obtain ⟨hi, o, ho, rfl⟩ := hobj i o' h
    have := (H.obj i o ho).scrub (id := id) (x := ι id) hi (fun _ _ => rfl)
    rwa [put_self] at this
  · intro i j oi oj b hi hj hij hbi hbj
    obtain ⟨_, o1, h1, _⟩ := hobj i oi hi
    obtain ⟨_, o2, h2, _⟩ := hobj j oj hj
    exact H.disj i j o1 o2 b h1 h2 hij hbi hbj
  · intro i o' b h hb
    obtain ⟨_, o, ho, _⟩ := hobj i o' h
    exact H.own i o b ho hb
  · intro t s h i hi
    obtain ⟨s0, h0, rfl⟩ := omap_some.1 (show omap (scrubS id) (st.slots t) = some s from h)
    obtain ⟨h1, h2⟩ := refs_scrub hi
    obtain ⟨o, ho⟩ := hwf.slots t s0 h0 i h1
    exact hin i o h2 ho
  · intro j o' h i hi
    obtain ⟨_, o, ho, rfl⟩ := hobj j o' h
    obtain ⟨h1, h2⟩ := refs_scrubObj hi
    obtain ⟨o2, ho2⟩ := hwf.cells j o ho i h1
    exact hin i o2 h2 ho2
  · intro t s1 h
    obtain ⟨s0, h0, rfl⟩ := omap_some.1 (show omap (scrubS id) (st.slots t) = some s1 from h)
    refine ⟨s0, h0, fun v0 hv => ?_⟩
    have := hv.scrub id (ι id)
    rwa [put_self] at this
  · intro i o' h
    obtain ⟨hi, o, ho, _⟩ := hobj i o' h
    exact ⟨by simpa using hi, o, ho⟩
  · intro i hi ⟨o, ho⟩
    exact hin i o (by simpa using hi) ho
theorem drop_all : ∀ (rows : List Nat) {st : St}, HRel tt X w0 Mx ι M st.objs w → WF st → Dropped tt X w0 Mx ι M w rows st (dropRows rows st) := by
  intro rows
  induction rows with
  | nil => intro st H hwf; exact ⟨H, hwf, rfl, fun t s1 h => ⟨s1, h, fun _ h => h⟩, fun i o h => ⟨by simp, o, h⟩, fun i _ h => h⟩
  | cons id r ih =>
    intro st H hwf
    have h1 := drop_one H hwf id
    have h2 := ih h1.rel h1.wf
    refine ⟨h2.rel, h2.wf, h2.n.trans h1.n, ?_, ?_, ?_⟩
    · intro t s1 h
      obtain ⟨s0, q1, q2⟩ := h2.slots t s1 h
      obtain ⟨s, q3, q4⟩ := h1.slots t s0 q1
      exact ⟨s, q3, fun v0 hv => q2 v0 (q4 v0 hv)⟩
    · intro i o' h
      obtain ⟨q1, o, q2⟩ := h2.there i o' h
      obtain ⟨q3, o2, q4⟩ := h1.there i o q2
      refine ⟨?_, o2, q4⟩
      intro hi
      rcases List.mem_cons.1 hi with rfl | hi
      · exact q3 (by simp)
      · exact q1 hi
    · intro i hi ho
      exact h2.kept i (fun h => hi (List.mem_cons_of_mem _ h)) (h1.kept i (fun h => hi (by simp at h; subst h; exact List.mem_cons_self)) ho)

/-- The caller's objects and what came back of those that were handed over. -/
theorem HRel.merge2 {w' : World} {M' : Mem} {ι2 : Nat → Value} {objs : Nat → Option Obj} {os : List (Nat × Obj)} {hs : List Nat} {Xh : Nat → Prop} (H : HRel tt X w0 Mx ι M objs w)
    (R : HRel tt Xh w M ι2 M' (fun i => lk i os) w') (hXo : ∀ b, Xh b → w0.heap.size ≤ b ∨ X b) (hXd : ∀ b, Xh b → ∀ i o, objs i = some o → i ∉ hs → blockOf (ι i) ≠ some b)
    (hf : ∀ i o, lk i os = some o → i ∈ hs ∨ objs i = none) (hall : ∀ i, i ∈ hs → ∃ o, lk i os = some o) (hbox : ∀ i, i ∈ hs → ι2 i = ι i)
    (hcells : ∀ j o, objs j = some o → ∀ i, i ∈ objRefs0 o → ∃ o', objs i = some o') (hos : ∀ j o, lk j os = some o → ∀ i, i ∈ objRefs0 o → ∃ o', lk i os = some o') :
    HRel tt X w0 Mx (joinι os ι ι2) M' (putAll objs os) w' ∧ ∀ i, (∃ o, objs i = some o) → joinι os ι ι2 i = ι i := by
  have hcase : ∀ i o, putAll objs os i = some o → (lk i os = some o ∧ joinι os ι ι2 i = ι2 i) ∨ (lk i os = none ∧ objs i = some o ∧ joinι os ι ι2 i = ι i ∧ i ∉ hs) := by
    intro i o h
    rw [putAll_eq] at h
    unfold joinι
    cases hl : lk i os with
    | some o' => rw [hl] at h; injection h with h; subst h; exact .inl ⟨rfl, rfl⟩
    | none =>
      rw [hl] at h
      refine .inr ⟨rfl, h, rfl, fun hi => ?_⟩
      obtain ⟨o', ho'⟩ := hall i hi
      rw [hl] at ho'; cases ho'
  have hold : ∀ i, (∃ o, objs i = some o) → joinι os ι ι2 i = ι i := by
    intro i ⟨o, h⟩
    unfold joinι
    cases hl : lk i os with
    | some o' =>
      rcases hf i o' hl with hi | hi
      · exact hbox i hi
      · rw [hi] at h; cases h
    | none => rfl
  have hin : ∀ i o, lk i os = some o → joinι os ι ι2 i = ι2 i := by
    intro i o h; unfold joinι; rw [h]
  have hkeep : ∀ b, b < w.heap.size → ¬ Xh b → w'.heap[b]? = w.heap[b]? := fun b hb hx => R.keep b hb hx
  refine ⟨⟨?_, ?_, ?_, R.mem, fun ad v h => R.memx ad v (H.memx ad v h), ?_, R.os.trans H.os, R.tape.trans H.tape, R.output.trans H.output, Nat.le_trans H.size R.size, ?_⟩, hold⟩
  · intro i o ho
    rcases hcase i o ho with ⟨h1, h2⟩ | ⟨_, h1, h2, h3⟩
    · exact (R.obj i o h1).congr h2 (fun j hj => by obtain ⟨o', ho'⟩ := hos i o h1 j hj; exact hin j o' ho') (fun _ _ h => h) (fun _ _ => rfl)
    · refine (H.obj i o h1).congr h2 (fun j hj => hold j (hcells i o h1 j hj)) R.memx (fun b hb => hkeep b ((H.obj i o h1).block_lt hb) (fun hx => hXd b hx i o h1 h3 hb))
  · intro i j oi oj b hi hj hij hbi hbj
    have hmix : ∀ i j oi oj, lk i os = some oi → objs j = some oj → j ∉ hs → blockOf (ι2 i) = some b → blockOf (ι j) ≠ some b := by
      intro i j oi oj h1 h3 h5 hbi hbj
      rcases (R.own i oi b h1 hbi).1 with h | h
      · have := (H.obj j oj h3).block_lt hbj; omega
      · exact hXd b h j oj h3 h5 hbj
    rcases hcase i oi hi with ⟨h1, h2⟩ | ⟨_, h1, h2, h5⟩ <;> rcases hcase j oj hj with ⟨h3, h4⟩ | ⟨_, h3, h4, h6⟩
    · rw [h2] at hbi; rw [h4] at hbj; exact R.disj i j oi oj b h1 h3 hij hbi hbj
    · rw [h2] at hbi; rw [h4] at hbj; exact hmix i j oi oj h1 h3 h6 hbi hbj
    · rw [h2] at hbi; rw [h4] at hbj; exact hmix j i oj oi h3 h1 h5 hbj hbi
    · rw [h2] at hbi; rw [h4] at hbj; exact H.disj i j oi oj b h1 h3 hij hbi hbj
  · intro i o b hi hb
    rcases hcase i o hi with ⟨h1, h2⟩ | ⟨_, h1, h2, h3⟩
    · rw [h2] at hb
      obtain ⟨q1, q2⟩ := R.own i o b h1 hb
      refine ⟨?_, q2⟩
      rcases q1 with q1 | q1
      · exact .inl (Nat.le_trans H.size q1)
      · exact hXo b q1
    · rw [h2] at hb
      obtain ⟨q1, q2⟩ := H.own i o b h1 hb
      refine ⟨q1, fun off sp => ?_⟩
      have hlt := (H.obj i o h1).block_lt hb
      rw [R.memB ⟨b, off, sp⟩ hlt (fun hx => hXd b hx i o h1 h3 hb)]
      exact q2 off sp
  · intro ad hb hX
    have hnx : ¬ Xh ad.block := fun hx => by
      rcases hXo _ hx with h | h
      · omega
      · exact hX h
    rw [R.memB ad (Nat.lt_of_lt_of_le hb H.size) hnx]
    exact H.memB ad hb hX
  · intro b hb hX
    have hnx : ¬ Xh b := fun hx => by
      rcases hXo _ hx with h | h
      · omega
      · exact hX h
    rw [hkeep b (Nat.lt_of_lt_of_le hb H.size) hnx]
    exact H.keep b hb hX
end
end Go.Proofs.YtjofkhdnidjleabDoor.DS
