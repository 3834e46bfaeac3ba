/- States in memory; how they change. -/
import Derived.Test.YtjofkhdnidjleabDoorDsJ
import Derived.Laws.AppendOwn
import Derived.Laws.CopyRow
set_option linter.unusedVariables false
set_option linter.unusedSimpArgs false
namespace Go.Proofs.YtjofkhdnidjleabDoor.DS
open Go.RowKit

theorem memN_iff {t : Nat} {l : List Nat} : memN t l = true ↔ t ∈ l := by
  induction l with
  | nil => simp [memN]
  | cons u r ih =>
    simp only [memN, List.mem_cons]
    cases h : Nat.beq t u with
    | true => simp [beq_iff.1 h]
    | false => simp [ih, beq_false.1 h]

/-- The objects, in memory. -/
structure HRel (tt : TT) (X : Nat → Prop) (w0 : World) (Mx : Mem) (ι : Nat → Value) (M : Mem) (objs : Nat → Option Obj) (w : World) : Prop where
  obj : ∀ id o, objs id = some o → ObjRel tt ι M w id o
  disj : ∀ id id' o o' b, objs id = some o → objs id' = some o' → id ≠ id' → blockOf (ι id) = some b → blockOf (ι id') ≠ some b
  own : ∀ id o b, objs id = some o → blockOf (ι id) = some b → (w0.heap.size ≤ b ∨ X b) ∧ ∀ off sp, M ⟨b, off, sp⟩ = none
  mem : ∀ ad v, M ad = some v → w.cell? ad = some v
  memx : ∀ ad v, Mx ad = some v → M ad = some v
  memB : ∀ ad, ad.block < w0.heap.size → ¬ X ad.block → M ad = Mx ad
  os : w.os = w0.os
  tape : w.tape = w0.tape
  output : w.output = w0.output
  size : w0.heap.size ≤ w.heap.size
  keep : ∀ b, b < w0.heap.size → ¬ X b → w.heap[b]? = w0.heap[b]?

theorem ObjRel.block_lt {tt : TT} {ι : Nat → Value} {M : Mem} {w : World} {id : Nat} {o : Obj} (h : ObjRel tt ι M w id o) {b : Nat} (hb : blockOf (ι id) = some b) : b < w.heap.size := by
  cases o with
  | arr e es =>
    obtain ⟨ei, _, _, ⟨h1, _⟩ | ⟨b', cap, cur, t, fr, vs, h1, hh, _⟩⟩ := h
    · rw [h1] at hb; cases hb
    · rw [h1] at hb; injection hb with hb; subst hb
      exact (Array.getElem?_eq_some_iff.1 hh).1
  | box t c =>
    obtain ⟨ti, b', cs, _, h1, hh, _⟩ := h
    rw [h1] at hb; injection hb with hb; subst hb
    exact (Array.getElem?_eq_some_iff.1 hh).1

theorem SVRel0.updι {tt : TT} {ι : Nat → Value} {M : Mem} {s : SV} {v : Value} (h : SVRel0 tt ι M s v) {id : Nat} {x : Value} (hn : id ∉ refs0 s) : SVRel0 tt (put ι id x) M s v := by
  cases s with
  | own i =>
    simp only [refs0, List.mem_singleton] at hn
    show v = put ι id x i ∧ ∃ a n c, put ι id x i = .slice a n c
    rw [put_other _ _ _ (fun e => hn e.symm)]; exact h
  | bptr i u off k =>
    simp only [refs0, List.mem_singleton] at hn
    obtain ⟨h1, b, h2, h3⟩ := h
    exact ⟨h1, b, by rw [put_other _ _ _ (fun e => hn e.symm)]; exact h2, h3⟩
  | optr i e n off k =>
    simp only [refs0, List.mem_singleton] at hn
    obtain ⟨h1, b, n, cap, ei, h2, h3, h4⟩ := h
    exact ⟨h1, b, n, cap, ei, h2, by rw [put_other _ _ _ (fun e => hn e.symm)]; exact h3, h4⟩
  | selfn i =>
    simp only [refs0, List.mem_singleton] at hn
    rcases h with h | ⟨b, h1, h2⟩
    · exact .inl h
    · exact .inr ⟨b, by rw [put_other _ _ _ (fun e => hn e.symm)]; exact h1, h2⟩
  | clo f i =>
    simp only [refs0, List.mem_singleton] at hn
    obtain ⟨b, h1, h2⟩ := h
    exact ⟨b, by rw [put_other _ _ _ (fun e => hn e.symm)]; exact h1, h2⟩
  | _ => exact h
theorem mem_refsL {i : Nat} {l : List SV} : i ∈ refsL l ↔ ∃ s ∈ l, i ∈ refs0 s := by
  induction l with
  | nil => simp [refsL]
  | cons s r ih => simp [refsL, ih]
theorem SVRel.updι {tt : TT} {ι : Nat → Value} {M : Mem} {s : SV} {v : Value} (h : SVRel tt ι M s v) {id : Nat} {x : Value} (hn : id ∉ refsOf s) : SVRel tt (put ι id x) M s v := by
  cases s with
  | tup l =>
    obtain ⟨vs, h1, h2, h3⟩ := h
    refine ⟨vs, h1, h2, fun i s x hs hx => (h3 i s x hs hx).updι (fun hi => hn ?_)⟩
    exact mem_refsL.2 ⟨s, List.mem_of_getElem? hs, hi⟩
  | val k d => exact h
  | nil => exact h
  | eptr k d => exact h
  | bptr i u off k => exact SVRel0.updι (M := M) (s := .bptr i u off k) h hn
  | optr i e n off k => exact SVRel0.updι (M := M) (s := .optr i e n off k) h hn
  | own i => exact SVRel0.updι (tt := tt) (M := M) (s := .own i) h hn
  | selfn i => exact SVRel0.updι (tt := tt) (M := M) (s := .selfn i) h hn
  | clo f i => exact SVRel0.updι (tt := tt) (M := M) (s := .clo f i) h hn
  | sag t ks l =>
    obtain ⟨ti, vs, h1, h2, h3, h4, h5, h6, h7⟩ := h
    refine ⟨ti, vs, h1, h2, h3, h4, h5, h6, fun i s x hs hx => (h7 i s x hs hx).updι (fun hi => hn ?_)⟩
    exact mem_refsL.2 ⟨s, List.mem_of_getElem? hs, hi⟩
  | gone => trivial
theorem SVRel.scrub {tt : TT} {ι : Nat → Value} {M : Mem} {s : SV} {v : Value} (h : SVRel tt ι M s v) (id : Nat) (x : Value) : SVRel tt (put ι id x) M (scrubS id s) v := by
  unfold scrubS
  cases hn : s.names id with
  | true => exact trivial
  | false =>
    refine h.updι (fun hi => ?_)
    have := memN_iff.2 hi
    unfold SV.names at hn
    rw [hn] at this; cases this
theorem refs_of_refs0 {s : SV} {i : Nat} (h : i ∈ refs0 s) : i ∈ refsOf s := by
  cases s with
  | tup l => simp [refs0] at h
  | sag _ _ l => simp [refs0] at h
  | _ => exact h
theorem SVRel0.scrub {tt : TT} {ι : Nat → Value} {M : Mem} {s : SV} {v : Value} (h : SVRel0 tt ι M s v) (id : Nat) (x : Value) : SVRel0 tt (put ι id x) M (cond (s.names id) .gone s) v := by
  cases hn : s.names id with
  | true => exact trivial
  | false =>
    refine h.updι (fun hi => ?_)
    have := memN_iff.2 (refs_of_refs0 hi)
    unfold SV.names at hn
    rw [hn] at this; cases this

theorem scrubCells_get (id : Nat) (l : List SV) (i : Nat) : (scrubCells id l)[i]? = (l[i]?).map fun s => cond (s.names id) .gone s := by
  induction l generalizing i with
  | nil => simp [scrubCells]
  | cons s r ih => cases i <;> simp [scrubCells, ih]
theorem scrubCells_length (id : Nat) (l : List SV) : (scrubCells id l).length = l.length := by
  induction l with
  | nil => rfl
  | cons s r ih => simp [scrubCells, ih]

/-- What an object's cells name. -/
def objRefs0 : Obj → List Nat
  | .box _ (.cells l) => refsL l
  | _ => []

/-- An object whose block has not changed. -/
theorem ObjRel.keep {tt : TT} {ι : Nat → Value} {M : Mem} {w w' : World} {i : Nat} {o : Obj} (h : ObjRel tt ι M w i o) {id : Nat} {x : Value} (hne : i ≠ id) (hn : id ∉ objRefs0 o)
    (hheap : ∀ b, blockOf (ι i) = some b → w'.heap[b]? = w.heap[b]?) : ObjRel tt (put ι id x) M w' i o := by
  cases o with
  | arr e es =>
    obtain ⟨ei, h1, h2, h3⟩ := h
    refine ⟨ei, h1, h2, ?_⟩
    rw [put_other _ _ _ hne]
    rcases h3 with h3 | ⟨b, cap, cur, t, fr, vs, h4, h5, h6⟩
    · exact .inl h3
    · exact .inr ⟨b, cap, cur, t, fr, vs, h4, by rw [hheap b (by rw [h4]; rfl)]; exact h5, h6⟩
  | box t c =>
    obtain ⟨ti, b, cs, h1, h2, h3, h4⟩ := h
    refine ⟨ti, b, cs, h1, by rw [put_other _ _ _ hne]; exact h2, by rw [hheap b (by rw [h2]; rfl)]; exact h3, ?_⟩
    cases c with
    | whole d => exact h4
    | cells l =>
      obtain ⟨h5, h6, h7⟩ := h4
      refine ⟨h5, h6, fun j s c hs hc => (h7 j s c hs hc).updι (fun hi => hn ?_)⟩
      exact mem_refsL.2 ⟨s, List.mem_of_getElem? hs, hi⟩
theorem ObjRel.scrub {tt : TT} {ι : Nat → Value} {M : Mem} {w w' : World} {i : Nat} {o : Obj} (h : ObjRel tt ι M w i o) {id : Nat} {x : Value} (hne : i ≠ id)
    (hheap : ∀ b, blockOf (ι i) = some b → w'.heap[b]? = w.heap[b]?) : ObjRel tt (put ι id x) M w' i (scrubObj id o) := by
  cases o with
  | arr e es => exact h.keep hne (by simp [objRefs0]) hheap
  | box t c =>
    cases c with
    | whole d => exact h.keep hne (by simp [objRefs0]) hheap
    | cells l =>
      obtain ⟨ti, b, cs, h1, h2, h3, h4⟩ := h
      refine ⟨ti, b, cs, h1, by rw [put_other _ _ _ hne]; exact h2, by rw [hheap b (by rw [h2]; rfl)]; exact h3, ?_⟩
      obtain ⟨h5, h6, h7⟩ := h4
      refine ⟨h5, by rw [scrubCells_length]; exact h6, fun j s c hs hc => ?_⟩
      rw [scrubCells_get, Option.map_eq_some_iff] at hs
      obtain ⟨s0, hs0, rfl⟩ := hs
      exact (h7 j s0 c hs0 hc).scrub id x
/-- An object whose block has not changed, the handles being as they were. -/
theorem ObjRel.same {tt : TT} {ι : Nat → Value} {M : Mem} {w w' : World} {i : Nat} {o : Obj} (h : ObjRel tt ι M w i o) (hheap : ∀ b, blockOf (ι i) = some b → w'.heap[b]? = w.heap[b]?) : ObjRel tt ι M w' i o := by
  cases o with
  | arr e es =>
    obtain ⟨ei, h1, h2, h3⟩ := h
    refine ⟨ei, h1, h2, ?_⟩
    rcases h3 with h3 | ⟨b, cap, cur, t, fr, vs, h4, h5, h6⟩
    · exact .inl h3
    · exact .inr ⟨b, cap, cur, t, fr, vs, h4, by rw [hheap b (by rw [h4]; rfl)]; exact h5, h6⟩
  | box t c =>
    obtain ⟨ti, b, cs, h1, h2, h3, h4⟩ := h
    exact ⟨ti, b, cs, h1, h2, by rw [hheap b (by rw [h2]; rfl)]; exact h3, h4⟩

/-- The one change: object id has another handle, perhaps another row; its own row, and new blocks, have been written. -/
theorem HRel.change {tt : TT} {X : Nat → Prop} {w0 : World} {Mx : Mem} {ι : Nat → Value} {M : Mem} {objs : Nat → Option Obj} {w w' : World} (H : HRel tt X w0 Mx ι M objs w) {row : Option Nat} (hg : w.grownBy w' row) {id : Nat} {x : Value}
    (hrow : ∀ b, row = some b → (∃ o, objs id = some o) ∧ blockOf (ι id) = some b)
    (hx : ∀ b, blockOf x = some b → ((∃ o, objs id = some o) ∧ blockOf (ι id) = some b) ∨ (w.heap.size ≤ b))
    {objs' : Nat → Option Obj} (hdom : ∀ i o', i ≠ id → objs' i = some o' → ∃ o, objs i = some o ∧ (ObjRel tt ι M w i o → (∀ b, blockOf (ι i) = some b → w'.heap[b]? = w.heap[b]?) → ObjRel tt (put ι id x) M w' i o'))
    (hid : ∀ o', objs' id = some o' → ObjRel tt (put ι id x) M w' id o') : HRel tt X w0 Mx (put ι id x) M objs' w' := by
  have hold : ∀ i o, i ≠ id → objs i = some o → ∀ b, blockOf (ι i) = some b → w'.heap[b]? = w.heap[b]? := by
    intro i o hi ho b hb
    refine hg.block b ((H.obj i o ho).block_lt hb) (fun e => ?_)
    obtain ⟨⟨oid, hoid⟩, h2⟩ := hrow b e.symm
    exact H.disj i id o oid b ho hoid hi hb h2
  have hMfree : ∀ ad v, M ad = some v → w'.heap[ad.block]? = w.heap[ad.block]? := by
    intro ad v hv
    have hc := H.mem ad v hv
    refine hg.block ad.block (World.block_lt_of_cell? w ad hc) (fun e => ?_)
    obtain ⟨⟨oid, hoid⟩, h2⟩ := hrow _ e.symm
    have := (H.own id oid _ hoid h2).2 ad.off ad.spot
    rw [this] at hv; cases hv
  refine ⟨?_, ?_, ?_, ?_, H.memx, H.memB, hg.os.trans H.os, hg.tape.trans H.tape, hg.output.trans H.output, Nat.le_trans H.size hg.size, ?_⟩
  · intro i o' ho'
    by_cases hi : i = id
    · subst hi; exact hid o' ho'
    · obtain ⟨o, ho, hr⟩ := hdom i o' hi ho'
      exact hr (H.obj i o ho) (hold i o hi ho)
  · intro i j oi oj b hoi hoj hij hbi hbj
    by_cases hi : i = id
    · subst hi
      rw [put_same] at hbi
      rw [put_other _ _ _ (fun e => hij e.symm)] at hbj
      obtain ⟨o, ho, _⟩ := hdom j oj (fun e => hij e.symm) hoj
      rcases hx b hbi with ⟨⟨oid, hoid⟩, h2⟩ | h2
      · exact H.disj i j oid o b hoid ho hij h2 hbj
      · have := (H.obj j o ho).block_lt hbj; omega
    · rw [put_other _ _ _ hi] at hbi
      obtain ⟨o, ho, _⟩ := hdom i oi hi hoi
      by_cases hj : j = id
      · subst hj
        rw [put_same] at hbj
        rcases hx b hbj with ⟨⟨oid, hoid⟩, h2⟩ | h2
        · exact H.disj i j o oid b ho hoid hij hbi h2
        · have := (H.obj i o ho).block_lt hbi; omega
      · rw [put_other _ _ _ hj] at hbj
        obtain ⟨o2, ho2, _⟩ := hdom j oj hj hoj
        exact H.disj i j o o2 b ho ho2 hij hbi hbj
  · intro i o' b ho' hb
    by_cases hi : i = id
    · subst hi
      rw [put_same] at hb
      rcases hx b hb with ⟨⟨oid, hoid⟩, h2⟩ | h2
      · exact H.own i oid b hoid h2
      · refine ⟨.inl (Nat.le_trans H.size h2), fun off sp => ?_⟩
        cases hm : M ⟨b, off, sp⟩ with
        | none => rfl
        | some v =>
          have := World.block_lt_of_cell? w _ (H.mem _ v hm)
          simp only at this; omega
    · rw [put_other _ _ _ hi] at hb
      obtain ⟨o, ho, _⟩ := hdom i o' hi ho'
      exact H.own i o b ho hb
  · intro ad v hv
    rw [World.cell?_of_block (hMfree ad v hv)]
    exact H.mem ad v hv
  · intro b hb hX
    rw [hg.block b (Nat.lt_of_lt_of_le hb H.size) (fun e => ?_)]
    · exact H.keep b hb hX
    · obtain ⟨⟨oid, hoid⟩, h2⟩ := hrow _ e.symm
      rcases (H.own id oid _ hoid h2).1 with h3 | h3
      · omega
      · exact hX h3

end Go.Proofs.YtjofkhdnidjleabDoor.DS
