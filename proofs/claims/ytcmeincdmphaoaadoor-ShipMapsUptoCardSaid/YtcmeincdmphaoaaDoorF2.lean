/- The data-level semantics: plain data, an interpreter of the program over them, and its soundness; part 2. -/
import Derived.Test.YtcmeincdmphaoaaDoorF1
import Derived.Laws.AppendOwn
import Derived.Laws.CopyRow
import Derived.Deep.Draws
import Derived.Carry
import Derived.ChangeMaps5
set_option linter.unusedVariables false
set_option linter.unusedSimpArgs false
namespace Go.Proofs.YtcmeincdmphaoaaDoor.DS
open Go.RowKit

theorem memN_iff {t : Nat} {l : List Nat} : memN t l = true ↔ t ∈ l := by
  induction l with
  | nil => simp [memN]
  | cons u r ih =>
    simp only [memN, List.mem_cons]
    cases h : Nat.beq t u with
    | true => simp [beq_iff.1 h]
    | false => simp [ih, beq_false.1 h]

/-- The objects, in memory. -/
structure HRel (tt : TT) (X : Nat → Prop) (w0 : World) (Mx : Mem) (ι : Nat → Value) (M : Mem) (objs : Nat → Option Obj) (w : World) : Prop where
  obj : ∀ id o, objs id = some o → ObjRel tt ι M w id o
  disj : ∀ id id' o o' b, objs id = some o → objs id' = some o' → id ≠ id' → blockOf (ι id) = some b → blockOf (ι id') ≠ some b
  own : ∀ id o b, objs id = some o → blockOf (ι id) = some b → (w0.heap.size ≤ b ∨ X b) ∧ ∀ off sp, M ⟨b, off, sp⟩ = none
  mem : ∀ ad v, M ad = some v → w.cell? ad = some v
  memx : ∀ ad v, Mx ad = some v → M ad = some v
  memB : ∀ ad, ad.block < w0.heap.size → ¬ X ad.block → M ad = Mx ad
  os : w.os = w0.os
  tape : w.tape = w0.tape
  output : w.output = w0.output
  size : w0.heap.size ≤ w.heap.size
  keep : ∀ b, b < w0.heap.size → ¬ X b → w.heap[b]? = w0.heap[b]?

theorem ObjRel.block_lt {tt : TT} {ι : Nat → Value} {M : Mem} {w : World} {id : Nat} {o : Obj} (h : ObjRel tt ι M w id o) {b : Nat} (hb : blockOf (ι id) = some b) : b < w.heap.size := by
  cases o with
  | arr e es =>
    obtain ⟨ei, _, _, ⟨h1, _⟩ | ⟨b', cap, cur, t, fr, vs, h1, hh, _⟩⟩ := h
    · rw [h1] at hb; cases hb
    · rw [h1] at hb; injection hb with hb; subst hb
      exact (Array.getElem?_eq_some_iff.1 hh).1
  | box t c =>
    obtain ⟨ti, b', cs, _, h1, hh, _⟩ := h
    rw [h1] at hb; injection hb with hb; subst hb
    exact (Array.getElem?_eq_some_iff.1 hh).1
  | map t kvs =>
    obtain ⟨_, _, _, _, _, b', _, _, _, _, _, _, _, _, _, h1, hh, _⟩ := h
    rw [h1] at hb; injection hb with hb; subst hb
    exact (Array.getElem?_eq_some_iff.1 hh).1

theorem SVRel0.updι {tt : TT} {ι : Nat → Value} {M : Mem} {s : SV} {v : Value} (h : SVRel0 tt ι M s v) {id : Nat} {x : Value} (hn : id ∉ refs0 s) : SVRel0 tt (put ι id x) M s v := by
  cases s with
  | own i =>
    simp only [refs0, List.mem_singleton] at hn
    show v = put ι id x i ∧ ∃ a n c, put ι id x i = .slice a n c
    rw [put_other _ _ _ (fun e => hn e.symm)]; exact h
  | bptr i u off k =>
    simp only [refs0, List.mem_singleton] at hn
    obtain ⟨h1, b, h2, h3⟩ := h
    exact ⟨h1, b, by rw [put_other _ _ _ (fun e => hn e.symm)]; exact h2, h3⟩
  | optr i e n off k =>
    simp only [refs0, List.mem_singleton] at hn
    obtain ⟨h1, b, n, cap, ei, h2, h3, h4⟩ := h
    exact ⟨h1, b, n, cap, ei, h2, by rw [put_other _ _ _ (fun e => hn e.symm)]; exact h3, h4⟩
  | selfn i =>
    simp only [refs0, List.mem_singleton] at hn
    rcases h with h | ⟨b, h1, h2⟩
    · exact .inl h
    · exact .inr ⟨b, by rw [put_other _ _ _ (fun e => hn e.symm)]; exact h1, h2⟩
  | clo f i =>
    simp only [refs0, List.mem_singleton] at hn
    obtain ⟨b, h1, h2⟩ := h
    exact ⟨b, by rw [put_other _ _ _ (fun e => hn e.symm)]; exact h1, h2⟩
  | mp i =>
    simp only [refs0, List.mem_singleton] at hn
    obtain ⟨b, h1, h2⟩ := h
    exact ⟨b, by rw [put_other _ _ _ (fun e => hn e.symm)]; exact h1, h2⟩
  | view i e lo =>
    simp only [refs0, List.mem_singleton] at hn
    obtain ⟨ei, A, n, cap, h1, h2, h3⟩ := h
    exact ⟨ei, A, n, cap, h1, by rw [put_other _ _ _ (fun e => hn e.symm)]; exact h2, h3⟩
  | _ => exact h
theorem mem_refsL {i : Nat} {l : List SV} : i ∈ refsL l ↔ ∃ s ∈ l, i ∈ refs0 s := by
  induction l with
  | nil => simp [refsL]
  | cons s r ih => simp [refsL, ih]
theorem SVRel.updι {tt : TT} {ι : Nat → Value} {M : Mem} {s : SV} {v : Value} (h : SVRel tt ι M s v) {id : Nat} {x : Value} (hn : id ∉ refsOf s) : SVRel tt (put ι id x) M s v := by
  cases s with
  | tup l =>
    obtain ⟨vs, h1, h2, h3⟩ := h
    refine ⟨vs, h1, h2, fun i s x hs hx => (h3 i s x hs hx).updι (fun hi => hn ?_)⟩
    exact mem_refsL.2 ⟨s, List.mem_of_getElem? hs, hi⟩
  | val k d => exact h
  | nil => exact h
  | eptr k d => exact h
  | bptr i u off k => exact SVRel0.updι (M := M) (s := .bptr i u off k) h hn
  | optr i e n off k => exact SVRel0.updι (M := M) (s := .optr i e n off k) h hn
  | own i => exact SVRel0.updι (tt := tt) (M := M) (s := .own i) h hn
  | selfn i => exact SVRel0.updι (tt := tt) (M := M) (s := .selfn i) h hn
  | clo f i => exact SVRel0.updι (tt := tt) (M := M) (s := .clo f i) h hn
  | mp i => exact SVRel0.updι (tt := tt) (M := M) (s := .mp i) h hn
  | view i e lo => exact SVRel0.updι (tt := tt) (M := M) (s := .view i e lo) h hn
  | sag t ks l =>
    obtain ⟨ti, vs, h1, h2, h3, h4, h5, h6, h7⟩ := h
    refine ⟨ti, vs, h1, h2, h3, h4, h5, h6, fun i s x hs hx => (h7 i s x hs hx).updι (fun hi => hn ?_)⟩
    exact mem_refsL.2 ⟨s, List.mem_of_getElem? hs, hi⟩
  | gonel _ => trivial
theorem SVRel.scrub {tt : TT} {ι : Nat → Value} {M : Mem} {s : SV} {v : Value} (h : SVRel tt ι M s v) (id : Nat) (x : Value) : SVRel tt (put ι id x) M (scrubS id s) v := by
  unfold scrubS
  cases hn : s.names id with
  | true => exact trivial
  | false =>
    refine h.updι (fun hi => ?_)
    have := memN_iff.2 hi
    unfold SV.names at hn
    rw [hn] at this; cases this
theorem refs_of_refs0 {s : SV} {i : Nat} (h : i ∈ refs0 s) : i ∈ refsOf s := by
  cases s with
  | tup l => simp [refs0] at h
  | sag _ _ l => simp [refs0] at h
  | _ => exact h
theorem SVRel0.scrub {tt : TT} {ι : Nat → Value} {M : Mem} {s : SV} {v : Value} (h : SVRel0 tt ι M s v) (id : Nat) (x : Value) : SVRel0 tt (put ι id x) M (cond (s.names id) (.gonel (refsOf s)) s) v := by
  cases hn : s.names id with
  | true => exact trivial
  | false =>
    refine h.updι (fun hi => ?_)
    have := memN_iff.2 (refs_of_refs0 hi)
    unfold SV.names at hn
    rw [hn] at this; cases this

theorem scrubCells_get (id : Nat) (l : List SV) (i : Nat) : (scrubCells id l)[i]? = (l[i]?).map fun s => cond (s.names id) (.gonel (refsOf s)) s := by
  induction l generalizing i with
  | nil => simp [scrubCells]
  | cons s r ih => cases i <;> simp [scrubCells, ih]
theorem scrubCells_length (id : Nat) (l : List SV) : (scrubCells id l).length = l.length := by
  induction l with
  | nil => rfl
  | cons s r ih => simp [scrubCells, ih]

/-- What an object's cells name. -/
def objRefs0 : Obj → List Nat
  | .box _ (.cells l) => refsL l
  | _ => []

/-- An object whose block has not changed. -/
theorem ObjRel.keep {tt : TT} {ι : Nat → Value} {M : Mem} {w w' : World} {i : Nat} {o : Obj} (h : ObjRel tt ι M w i o) {id : Nat} {x : Value} (hne : i ≠ id) (hn : id ∉ objRefs0 o)
    (hheap : ∀ b, blockOf (ι i) = some b → w'.heap[b]? = w.heap[b]?) : ObjRel tt (put ι id x) M w' i o := by
  cases o with
  | arr e es =>
    obtain ⟨ei, h1, h2, h3⟩ := h
    refine ⟨ei, h1, h2, ?_⟩
    rw [put_other _ _ _ hne]
    rcases h3 with h3 | ⟨b, cap, cur, t, fr, vs, h4, h5, h6⟩
    · exact .inl h3
    · exact .inr ⟨b, cap, cur, t, fr, vs, h4, by rw [hheap b (by rw [h4]; rfl)]; exact h5, h6⟩
  | box t c =>
    obtain ⟨ti, b, cs, h1, h2, h3, h4⟩ := h
    refine ⟨ti, b, cs, h1, by rw [put_other _ _ _ hne]; exact h2, by rw [hheap b (by rw [h2]; rfl)]; exact h3, ?_⟩
    cases c with
    | whole d => exact h4
    | cells l =>
      obtain ⟨h5, h6, h7⟩ := h4
      refine ⟨h5, h6, fun j s c hs hc => (h7 j s c hs hc).updι (fun hi => hn ?_)⟩
      exact mem_refsL.2 ⟨s, List.mem_of_getElem? hs, hi⟩
  | map t kvs =>
    obtain ⟨ti, k, e, ki, ei, b, es, clock, q1, q2, q3, q4, q5, q6, q7, h1, h2, h3⟩ := h
    exact ⟨ti, k, e, ki, ei, b, es, clock, q1, q2, q3, q4, q5, q6, q7, by rw [put_other _ _ _ hne]; exact h1, by rw [hheap b (by rw [h1]; rfl)]; exact h2, h3⟩
theorem ObjRel.scrub {tt : TT} {ι : Nat → Value} {M : Mem} {w w' : World} {i : Nat} {o : Obj} (h : ObjRel tt ι M w i o) {id : Nat} {x : Value} (hne : i ≠ id)
    (hheap : ∀ b, blockOf (ι i) = some b → w'.heap[b]? = w.heap[b]?) : ObjRel tt (put ι id x) M w' i (scrubObj id o) := by
  cases o with
  | arr e es => exact h.keep hne (by simp [objRefs0]) hheap
  | map t kvs => exact h.keep hne (by simp [objRefs0]) hheap
  | box t c =>
    cases c with
    | whole d => exact h.keep hne (by simp [objRefs0]) hheap
    | cells l =>
      obtain ⟨ti, b, cs, h1, h2, h3, h4⟩ := h
      refine ⟨ti, b, cs, h1, by rw [put_other _ _ _ hne]; exact h2, by rw [hheap b (by rw [h2]; rfl)]; exact h3, ?_⟩
      obtain ⟨h5, h6, h7⟩ := h4
      refine ⟨h5, by rw [scrubCells_length]; exact h6, fun j s c hs hc => ?_⟩
      rw [scrubCells_get, Option.map_eq_some_iff] at hs
      obtain ⟨s0, hs0, rfl⟩ := hs
      exact (h7 j s0 c hs0 hc).scrub id x
/-- An object whose block has not changed, the handles being as they were. -/
theorem ObjRel.same {tt : TT} {ι : Nat → Value} {M : Mem} {w w' : World} {i : Nat} {o : Obj} (h : ObjRel tt ι M w i o) (hheap : ∀ b, blockOf (ι i) = some b → w'.heap[b]? = w.heap[b]?) : ObjRel tt ι M w' i o := by
  cases o with
  | arr e es =>
    obtain ⟨ei, h1, h2, h3⟩ := h
    refine ⟨ei, h1, h2, ?_⟩
    rcases h3 with h3 | ⟨b, cap, cur, t, fr, vs, h4, h5, h6⟩
    · exact .inl h3
    · exact .inr ⟨b, cap, cur, t, fr, vs, h4, by rw [hheap b (by rw [h4]; rfl)]; exact h5, h6⟩
  | box t c =>
    obtain ⟨ti, b, cs, h1, h2, h3, h4⟩ := h
    exact ⟨ti, b, cs, h1, h2, by rw [hheap b (by rw [h2]; rfl)]; exact h3, h4⟩
  | map t kvs =>
    obtain ⟨ti, k, e, ki, ei, b, es, clock, q1, q2, q3, q4, q5, q6, q7, h1, h2, h3⟩ := h
    exact ⟨ti, k, e, ki, ei, b, es, clock, q1, q2, q3, q4, q5, q6, q7, h1, by rw [hheap b (by rw [h1]; rfl)]; exact h2, h3⟩

/-- The one change: object id has another handle, perhaps another row; its own row, and new blocks, have been written. -/
theorem HRel.change {tt : TT} {X : Nat → Prop} {w0 : World} {Mx : Mem} {ι : Nat → Value} {M : Mem} {objs : Nat → Option Obj} {w w' : World} (H : HRel tt X w0 Mx ι M objs w) {row : Option Nat} (hg : w.grownBy w' row) {id : Nat} {x : Value}
    (hrow : ∀ b, row = some b → (∃ o, objs id = some o) ∧ blockOf (ι id) = some b)
    (hx : ∀ b, blockOf x = some b → ((∃ o, objs id = some o) ∧ blockOf (ι id) = some b) ∨ (w.heap.size ≤ b))
    {objs' : Nat → Option Obj} (hdom : ∀ i o', i ≠ id → objs' i = some o' → ∃ o, objs i = some o ∧ (ObjRel tt ι M w i o → (∀ b, blockOf (ι i) = some b → w'.heap[b]? = w.heap[b]?) → ObjRel tt (put ι id x) M w' i o'))
    (hid : ∀ o', objs' id = some o' → ObjRel tt (put ι id x) M w' id o') : HRel tt X w0 Mx (put ι id x) M objs' w' := by
  have hold : ∀ i o, i ≠ id → objs i = some o → ∀ b, blockOf (ι i) = some b → w'.heap[b]? = w.heap[b]? := by
    intro i o hi ho b hb
    refine hg.block b ((H.obj i o ho).block_lt hb) (fun e => ?_)
    obtain ⟨⟨oid, hoid⟩, h2⟩ := hrow b e.symm
    exact H.disj i id o oid b ho hoid hi hb h2
  have hMfree : ∀ ad v, M ad = some v → w'.heap[ad.block]? = w.heap[ad.block]? := by
    intro ad v hv
    have hc := H.mem ad v hv
    refine hg.block ad.block (World.block_lt_of_cell? w ad hc) (fun e => ?_)
    obtain ⟨⟨oid, hoid⟩, h2⟩ := hrow _ e.symm
    have := (H.own id oid _ hoid h2).2 ad.off ad.spot
    rw [this] at hv; cases hv
  refine ⟨?_, ?_, ?_, ?_, H.memx, H.memB, hg.os.trans H.os, hg.tape.trans H.tape, hg.output.trans H.output, Nat.le_trans H.size hg.size, ?_⟩
  · intro i o' ho'
    by_cases hi : i = id
    · subst hi; exact hid o' ho'
    · obtain ⟨o, ho, hr⟩ := hdom i o' hi ho'
      exact hr (H.obj i o ho) (hold i o hi ho)
  · intro i j oi oj b hoi hoj hij hbi hbj
    by_cases hi : i = id
    · subst hi
      rw [put_same] at hbi
      rw [put_other _ _ _ (fun e => hij e.symm)] at hbj
      obtain ⟨o, ho, _⟩ := hdom j oj (fun e => hij e.symm) hoj
      rcases hx b hbi with ⟨⟨oid, hoid⟩, h2⟩ | h2
      · exact H.disj i j oid o b hoid ho hij h2 hbj
      · have := (H.obj j o ho).block_lt hbj; omega
    · rw [put_other _ _ _ hi] at hbi
      obtain ⟨o, ho, _⟩ := hdom i oi hi hoi
      by_cases hj : j = id
      · subst hj
        rw [put_same] at hbj
        rcases hx b hbj with ⟨⟨oid, hoid⟩, h2⟩ | h2
        · exact H.disj i j o oid b ho hoid hij hbi h2
        · have := (H.obj i o ho).block_lt hbi; omega
      · rw [put_other _ _ _ hj] at hbj
        obtain ⟨o2, ho2, _⟩ := hdom j oj hj hoj
        exact H.disj i j o o2 b ho ho2 hij hbi hbj
  · intro i o' b ho' hb
    by_cases hi : i = id
    · subst hi
      rw [put_same] at hb
      rcases hx b hb with ⟨⟨oid, hoid⟩, h2⟩ | h2
      · exact H.own i oid b hoid h2
      · refine ⟨.inl (Nat.le_trans H.size h2), fun off sp => ?_⟩
        cases hm : M ⟨b, off, sp⟩ with
        | none => rfl
        | some v =>
          have := World.block_lt_of_cell? w _ (H.mem _ v hm)
          simp only at this; omega
    · rw [put_other _ _ _ hi] at hb
      obtain ⟨o, ho, _⟩ := hdom i o' hi ho'
      exact H.own i o b ho hb
  · intro ad v hv
    rw [World.cell?_of_block (hMfree ad v hv)]
    exact H.mem ad v hv
  · intro b hb hX
    rw [hg.block b (Nat.lt_of_lt_of_le hb H.size) (fun e => ?_)]
    · exact H.keep b hb hX
    · obtain ⟨⟨oid, hoid⟩, h2⟩ := hrow _ e.symm
      rcases (H.own id oid _ hoid h2).1 with h3 | h3
      · omega
      · exact hX h3

end Go.Proofs.YtcmeincdmphaoaaDoor.DS

namespace Go.Proofs.YtcmeincdmphaoaaDoor.DS
open Go.RowKit

/-- Every row and box that is named is there. -/
structure WF (st : St) : Prop where
  slots : ∀ t s, st.slots t = some s → ∀ i, i ∈ refsOf s → ∃ o, st.objs i = some o
  cells : ∀ j o, st.objs j = some o → ∀ i, i ∈ objRefs0 o → ∃ o', st.objs i = some o'

/-- A step of the state. -/
def Steps1 (tt : TT) (X : Nat → Prop) (w0 : World) (Mx : Mem) (ι : Nat → Value) (M : Mem) (st s : St) (w' : World) (v : SV) (u : Value) : Prop :=
  ∃ ι', HRel tt X w0 Mx ι' M s.objs w' ∧ (∀ t s1, s.slots t = some s1 → ∃ s0, st.slots t = some s0 ∧ ∀ v0, SVRel tt ι M s0 v0 → SVRel tt ι' M s1 v0) ∧ SVRel tt ι' M v u ∧ s.n = st.n ∧ WF s ∧
    ∀ i, i ∈ refsOf v → ∃ o, s.objs i = some o

section
variable {P : Program} {E : Env} (hT : TTok P E.tt) {draw : Bool} {st : St} {ops : List Oper} {L : List (Nat × Bool)} {a : Act} {w w0 : World} {X : Nat → Prop} {Mx : Mem} {ι : Nat → Value} {M : Mem}
  (hev : ∀ x s, ev st ops L x = some s → SVRel E.tt ι M s (a.eval x))
  (H : HRel E.tt X w0 Mx ι M st.objs w) (hwf : WF st)

include H hwf in
/-- A new object. -/
theorem new_step {id : Nat} (hf : st.objs id = none) {w' : World} {row : Option Nat} (hg : w.grownBy w' none) {x u : Value} (hx : ∀ b, blockOf x = some b → w.heap.size ≤ b) {ob : Obj} {v : SV}
    (hob : ObjRel E.tt (put ι id x) M w' id ob) (hor : ∀ i, i ∈ objRefs0 ob → i = id ∨ ∃ o, st.objs i = some o) (hv : SVRel E.tt (put ι id x) M v u) (hvr : ∀ i, i ∈ refsOf v → i = id) :
    Steps1 E.tt X w0 Mx ι M st { st with objs := put st.objs id (some ob) } w' v u := by
  have hne : ∀ i o, st.objs i = some o → i ≠ id := fun i o ho e => by subst e; rw [hf] at ho; cases ho
  have hin : ∀ i o, st.objs i = some o → ∃ o, put st.objs id (some ob) i = some o := fun i o ho => ⟨o, by rw [put_other _ _ _ (hne i o ho)]; exact ho⟩
  refine ⟨put ι id x, ?_, ?_, hv, rfl, ⟨?_, ?_⟩, ?_⟩
  · refine H.change hg (row := none) (fun b hb => by cases hb) (fun b hb => .inr (hx b hb)) ?_ ?_
    · intro i o' hi ho'
      simp only [put_other _ _ _ hi] at ho'
      refine ⟨o', ho', fun hr hh => hr.keep hi (fun hin' => ?_) hh⟩
      obtain ⟨o2, ho2⟩ := hwf.cells i o' ho' id hin'
      rw [hf] at ho2; cases ho2
    · intro o' ho'
      simp only [put_same, Option.some.injEq] at ho'
      subst ho'; exact hob
  · intro t s1 hs1
    refine ⟨s1, hs1, fun v0 hv0 => hv0.updι (fun hin' => ?_)⟩
    obtain ⟨o2, ho2⟩ := hwf.slots t s1 hs1 id hin'
    rw [hf] at ho2; cases ho2
  · intro t s1 hs1 i hi
    obtain ⟨o, ho⟩ := hwf.slots t s1 hs1 i hi
    exact hin i o ho
  · intro j o hj i hi
    by_cases hji : j = id
    · subst hji
      simp only [put_same, Option.some.injEq] at hj
      subst hj
      rcases hor i hi with rfl | ⟨o2, ho2⟩
      · exact ⟨ob, put_same _ _ _⟩
      · exact hin i o2 ho2
    · simp only [put_other _ _ _ hji] at hj
      obtain ⟨o2, ho2⟩ := hwf.cells j o hj i hi
      exact hin i o2 ho2
  · intro i hi
    rw [hvr i hi]
    exact ⟨ob, put_same _ _ _⟩

theorem grown_alloc (w : World) (o : Go.Obj) : w.grownBy (w.alloc o) none := World.grownBy_alloc w o none

theorem withObj_st {dst : Option Nat} {ob ob' : Obj} {vv : Nat → SV} {c0 c scr : Bool} {id : Nat} {v : SV} (h : withObj st dst ob vv c0 = some (.ob c id ob' scr v)) :
    dst = some id ∧ st.objs id = none ∧ c = c0 ∧ ob' = ob ∧ scr = false ∧ v = vv id := by
  unfold withObj at h
  split at h
  · replace h := cond_some.1 h
    obtain ⟨hf, h⟩ := h
    injection h with h; injection h with h1 h2 h3 h4 h5; subst h1 h2 h3 h4 h5
    refine ⟨rfl, ?_, rfl, rfl, rfl, rfl⟩
    unfold fresh at hf
    split at hf
    · cases hf
    · assumption
  · cases h

/-- What an operation that changes the state does. -/
def Does (P : Program) (tt : TT) (X : Nat → Prop) (w0 : World) (Mx : Mem) (ι : Nat → Value) (M : Mem) (a : Act) (w : World) (o : Oper) (st s : St) (v : SV) : Prop :=
  ∃ u w', ((execOp a.eval o).run P w = .ok (.value u) w' ∨ ((execOp a.eval o).run P w = .ok .skip w' ∧ u = undef)) ∧ Steps1 tt X w0 Mx ι M st s w' v u

theorem constSV_refs' {v : Value} {s : SV} (h : constSV v = some s) : refsOf s = [] := by
  unfold constSV at h
  split at h
  · injection h with h; subst h; rfl
  · obtain ⟨_, h⟩ := cond_some.1 h
    injection h with h; subst h; rfl
  · obtain ⟨_, h⟩ := cond_some.1 h
    injection h with h; subst h; rfl
  · injection h with h; subst h; rfl
  · injection h with h; subst h; rfl
  · injection h with h; subst h; rfl
  · injection h with h; subst h; rfl
  · cases h

include hT H hwf in
theorem alloc_sound {o : Oper} {t : TypeId} (ho : o.op = .alloc t) {c : Bool} {id : Nat} {ob : Obj} {scr : Bool} {v : SV} (h : allocO E st o.dst t = some (.ob c id ob scr v)) : Does P E.tt X w0 Mx ι M a w o st (obSt st id ob scr) v := by
  unfold allocO at h
  replace h := opt_some.1 h
  obtain ⟨ti, ht, h⟩ := h
  obtain ⟨hd, hf, rfl, rfl, rfl, rfl⟩ := withObj_st h
  obtain ⟨inf, z, h1, h2, hcs⟩ := zero_cells (M := M) hT ht (zeroSV (o.dst.getD 0)) (fun k => .inr ⟨_, rfl⟩)
  refine ⟨.pointer (some ⟨w.heap.size, 0, none⟩), w.alloc (.cells z.cells t), .inl (execOp_value (s := Instr.alloc t true (.tuple #[])) (by simp [execOp, ho]) ?_), ?_⟩
  · simp [Instr.alloc, zeroValue, run_info h1, h2, newVar, newRow]
  · refine new_step (row := none) H hwf hf (grown_alloc w _) (x := .pointer (some ⟨w.heap.size, 0, none⟩)) (fun b hb => ?_) ?_ (fun i hi => ?_) ?_ (fun i hi => ?_)
    · simp only [blockOf, Option.some.injEq] at hb; omega
    · obtain ⟨c1, c2, c3⟩ := hcs (put ι id (.pointer (some ⟨w.heap.size, 0, none⟩)))
      exact ⟨ti, w.heap.size, z.cells, ht, by rw [put_same], heap_alloc_new w _, c1, c2, c3⟩
    · obtain ⟨s, hs, hi⟩ := mem_refsL.1 hi
      rw [List.mem_map] at hs
      obtain ⟨k, hk, rfl⟩ := hs
      left
      rw [hd] at hi
      cases k <;> simp [zeroSV, refs0] at hi
      exact hi
    · exact ⟨KindAt.self hT ht, w.heap.size, by rw [put_same], rfl⟩
    · simpa [refsOf, refs0] using hi

include hT hev H hwf in
theorem box_sound {o : Oper} {t : TypeId} {x : Operand} (ho : o.op = .box t x) {c : Bool} {id : Nat} {ob : Obj} {scr : Bool} {v : SV} (h : boxO E st ops L o.dst t x = some (.ob c id ob scr v)) : Does P E.tt X w0 Mx ι M a w o st (obSt st id ob scr) v := by
  unfold boxO at h
  replace h := opt_some.1 h
  obtain ⟨ti, ht, h⟩ := h
  replace h := opt_some.1 h
  obtain ⟨s1, hs1, h⟩ := h
  replace h := opt_some.1 h
  obtain ⟨bc, hbc0, h⟩ := h
  have hi := hT t ti ht
  obtain ⟨hdst, hf, rfl, rfl, rfl, rfl⟩ := withObj_st h
  have hs := hev x s1 hs1
  have hfresh : ∀ i, i ∈ refsOf s1 → i ≠ id := by
    intro i hi e
    subst e
    cases x with
    | tmp tx =>
      have hs1' := (cond_some.1 hs1).2
      obtain ⟨o2, ho2⟩ := hwf.slots tx s1 hs1' i hi
      rw [hf] at ho2; cases ho2
    | const v =>
      have := constSV_refs' hs1
      rw [this] at hi; cases hi
    | func _ => cases hs1; simp [refsOf, refs0] at hi
    | _ => cases hs1
  have hthere : ∀ i, i ∈ refsOf s1 → ∃ o, st.objs i = some o := by
    intro i hi
    cases x with
    | tmp tx => exact hwf.slots tx s1 (cond_some.1 hs1).2 i hi
    | const v =>
      have := constSV_refs' hs1
      rw [this] at hi; cases hi
    | func _ => cases hs1; simp [refsOf, refs0] at hi
    | _ => cases hs1
  have hs' : SVRel E.tt (put ι id (.pointer (some ⟨w.heap.size, 0, none⟩))) M s1 (a.eval x) := hs.updι (fun hin => hfresh id hin rfl)
  have hbc : BCRel E.tt (put ι id (.pointer (some ⟨w.heap.size, 0, none⟩))) M ti (a.eval x).cells bc ∧ ∀ i, i ∈ objRefs0 (.box t bc) → i ∈ refsOf s1 := by
    have dat : ∀ d, svD ti.kt s1 = some d → ti.kt.single = true → BCRel E.tt (put ι id (.pointer (some ⟨w.heap.size, 0, none⟩))) M ti (a.eval x).cells (.cells [.val ti.kt d]) ∧ ∀ i, i ∈ objRefs0 (.box t (.cells [.val ti.kt d])) → i ∈ refsOf s1 := by
      intro d hd hks
      have hrep := svD_rel hd hs
      have hc1 := hi.cells_of_single hks
      refine ⟨⟨?_, ?_, ?_⟩, fun i hi => by simp [objRefs0, refsL, refs0] at hi⟩
      · rw [(hrep.cells_single hks).1, hc1]; rfl
      · rw [hc1]; rfl
      · intro i s c hs hc
        rw [(hrep.cells_single hks).1] at hc
        cases i with
        | zero => simp at hs hc; subst hs hc; exact hrep
        | succ i => simp at hs
    have whole : ∀ u d, svD ti.kt s1 = some d → ti.kt = .agg u → BCRel E.tt (put ι id (.pointer (some ⟨w.heap.size, 0, none⟩))) M ti (a.eval x).cells (.whole d) ∧ ∀ i, i ∈ objRefs0 (.box t (.whole d)) → i ∈ refsOf s1 := by
      intro u d hd hk
      have hrep := svD_rel hd hs
      refine ⟨⟨⟨u, hk⟩, ?_⟩, fun i hi => by cases hi⟩
      have hrep' := hrep
      rw [hk] at hrep'
      obtain ⟨ti', cs, hv, _⟩ := hrep'.inv_agg
      rw [hv] at hrep ⊢
      exact hrep
    have one : ∀ s0, SVRel0 E.tt (put ι id (.pointer (some ⟨w.heap.size, 0, none⟩))) M s0 (a.eval x) → ti.kt.single = true → (a.eval x).cells = #[a.eval x] → (∀ i, i ∈ refs0 s0 → i ∈ refsOf s1) →
        BCRel E.tt (put ι id (.pointer (some ⟨w.heap.size, 0, none⟩))) M ti (a.eval x).cells (.cells [s0]) ∧ ∀ i, i ∈ objRefs0 (.box t (.cells [s0])) → i ∈ refsOf s1 := by
      intro s0 h0 hks hc hrf
      have hc1 := hi.cells_of_single hks
      refine ⟨⟨by rw [hc, hc1]; rfl, by rw [hc1]; rfl, ?_⟩, fun i hi => ?_⟩
      · intro i s c hs hcc
        rw [hc] at hcc
        cases i with
        | zero => simp at hs hcc; subst hs hcc; exact h0
        | succ i => simp at hs
      · obtain ⟨s, hs, hi2⟩ := mem_refsL.1 hi
        simp at hs; subst hs; exact hrf i hi2
    unfold boxC at hbc0
    split at hbc0
    · rename_i u hk
      split at hbc0
      · rename_i u' ks l
        replace hbc0 := cond_some.1 hbc0
        obtain ⟨he, hbc0⟩ := hbc0
        injection hbc0 with hbc0; subst hbc0
        simp only [Bool.and_eq_true] at he
        have he := beq_iff.1 he.1
        subst he
        obtain ⟨ti', vs, h1, h2, h3, hv, h5, h6, h7⟩ := hs'
        rw [ht] at h1; injection h1 with h1; subst h1
        refine ⟨⟨by rw [hv]; simp [Value.cells, h5, h6, h3], by rw [h6, h3], fun i s c hs hc => ?_⟩, fun i hi => hi⟩
        rw [hv] at hc
        exact h7 i s c hs (by simpa [Value.cells] using hc)
      · replace hbc0 := opt_some.1 hbc0
        obtain ⟨d, hd, hbc0⟩ := hbc0
        injection hbc0 with hbc0; subst hbc0
        exact whole u d hd hk
    · rename_i e hk
      have hks : ti.kt.single = true := by rw [hk]; rfl
      split at hbc0
      · injection hbc0 with hbc0; subst hbc0
        have hv : a.eval x = .slice none 0 0 := hs'
        exact one .nil hv hks (by rw [hv]; rfl) (fun i hi => by cases hi)
      · rename_i i0
        injection hbc0 with hbc0; subst hbc0
        obtain ⟨h1, q, n, c, h2⟩ : a.eval x = _ ∧ ∃ a n c, put ι id (.pointer (some ⟨w.heap.size, 0, none⟩)) i0 = .slice a n c := hs'
        exact one (.own i0) ⟨h1, q, n, c, h2⟩ hks (by rw [h1, h2]; rfl) (fun i hi => hi)
      · replace hbc0 := opt_some.1 hbc0
        obtain ⟨d, hd, hbc0⟩ := hbc0
        injection hbc0 with hbc0; subst hbc0
        exact dat d hd hks
    · rename_i hna hns
      replace hbc0 := opt_some.1 hbc0
      obtain ⟨d, hd, hbc0⟩ := hbc0
      injection hbc0 with hbc0; subst hbc0
      refine dat d hd ?_
      cases hkt : ti.kt with
      | agg u => exact absurd hkt (hna u)
      | _ => rfl
  refine ⟨.pointer (some ⟨w.heap.size, 0, none⟩), w.alloc (.cells (a.eval x).cells t), .inl (execOp_value (s := Instr.box t (a.eval x)) (by simp [execOp, ho]) ?_), ?_⟩
  · simp [Instr.box, newVar, newRow]
  · refine new_step (row := none) H hwf hf (grown_alloc w _) (x := .pointer (some ⟨w.heap.size, 0, none⟩)) (fun b hb => ?_) ?_ (fun i hi => ?_) ?_ (fun i hi => ?_)
    · simp only [blockOf, Option.some.injEq] at hb; omega
    · exact ⟨ti, w.heap.size, (a.eval x).cells, ht, by rw [put_same], heap_alloc_new w _, hbc.1⟩
    · exact .inr (hthere i (hbc.2 i hi))
    · exact ⟨KindAt.self hT ht, w.heap.size, by rw [put_same], rfl⟩
    · simpa [refsOf, refs0] using hi

end
end Go.Proofs.YtcmeincdmphaoaaDoor.DS

namespace Go.Proofs.YtcmeincdmphaoaaDoor.DS
open Go.RowKit

theorem put_self {α : Type} (f : Nat → α) (t : Nat) : put f t (f t) = f := by
  funext u
  by_cases h : u = t
  · subst h; rw [put_same]
  · rw [put_other _ _ _ h]

theorem run_storeCells_fr (P : Program) (g o : Nat) (t : TypeId) (fz : Nat × Nat) : ∀ (vs : List Value) (i : Nat) (cur : Array Value) (w : World), w.heap[g]? = some (.cells cur t fz) → (cur.size ≤ fz.1 ∨ fz.2 ≤ fz.1) → o + i + vs.length ≤ cur.size → (∀ v ∈ vs, v.oneCell' = true) →
    (storeCells ⟨g, o, none⟩ vs i).run P w = .ok () (w.setRow g (cur.toList.take (o + i) ++ vs ++ cur.toList.drop (o + i + vs.length)).toArray)
  | [], i, cur, w, hg, _, _, _ => by
    simp only [storeCells, List.append_nil, List.length_nil, Nat.add_zero, List.take_append_drop, Array.toArray_toList]
    rw [setRow_self w g cur t fz hg]
    rfl
  | v :: rest, i, cur, w, hg, hfz, hl, h1 => by
    have hi : o + i < cur.size := by simp at hl; omega
    have hadd : (⟨g, o, none⟩ : Addr).add i = ⟨g, o + i, none⟩ := by rw [add_spot _ rfl]
    have hcell : w.cell? ⟨g, o + i, none⟩ = some cur[o + i] := by simp [World.cell?, hg, hi]
    have hfro : w.frozen? ⟨g, o + i, none⟩ = false := by
      obtain ⟨lo, hi'⟩ := fz
      simp only [World.frozen?, hg, Bool.and_eq_false_iff, decide_eq_false_iff_not]
      simp only at hfz
      omega
    have hst : (store ((⟨g, o, none⟩ : Addr).add i) v).run P w = .ok () (w.setRow g (cur.setIfInBounds (o + i) v)) := by
      rw [hadd, run_store P w _ v _ (h1 v (by simp)), hcell]
      simp [hfro, setCell_eq_setRow w g (o + i) cur t fz v hg]
    have ih := run_storeCells_fr P g o t fz rest (i + 1) (cur.setIfInBounds (o + i) v) (w.setRow g (cur.setIfInBounds (o + i) v)) (setRow_heap w g cur _ t _ hg) (by simpa using hfz) (by simp at hl ⊢; omega) (fun x hx => h1 x (by simp [hx]))
    simp only [storeCells, Sem.run_bind, hst, Result.andThen_ok, ih, setRow_setRow]
    congr 3
    have e := list_seg_step cur.toList (o + i) v rest (by simp at hl ⊢; omega)
    simpa [Array.toList_setIfInBounds, Nat.add_assoc] using e

theorem grown_setRow (w : World) (g : Nat) (cs : Array Value) : w.grownBy (w.setRow g cs) (some g) :=
  ⟨rfl, rfl, rfl, by simp [World.setRow], fun k _ hk => setRow_other w g k cs (fun e => hk (by rw [e]))⟩

/-- A stretch of a list replaced. -/
theorem seg_get {α : Type} (l vs : List α) (o k : Nat) (h : o + vs.length ≤ l.length) : (l.take o ++ vs ++ l.drop (o + vs.length))[k]? = if o ≤ k ∧ k < o + vs.length then vs[k - o]? else l[k]? := by
  have h1 : (l.take o).length = o := by simp; omega
  rw [List.append_assoc]
  by_cases hk : k < o
  · rw [if_neg (by omega), List.getElem?_append_left (by omega), List.getElem?_take, if_pos hk]
  · rw [List.getElem?_append_right (by omega), h1]
    by_cases hk2 : k < o + vs.length
    · rw [if_pos ⟨by omega, hk2⟩, List.getElem?_append_left (by omega)]
    · rw [if_neg (by omega), List.getElem?_append_right (by omega), List.getElem?_drop]
      congr 1; omega

/-- Cells of a box replaced. -/
theorem seg_rel {tt : TT} {ι : Nat → Value} {M : Mem} {ti : TI} {cs : Array Value} {l : List SV} (h : BCRel tt ι M ti cs (.cells l)) {off : Nat} {ss : List SV} {vs : List Value} (hl : ss.length = vs.length) (ho : off + vs.length ≤ cs.size)
    (hr : ∀ (i : Nat) (s : SV) (c : Value), ss[i]? = some s → vs[i]? = some c → SVRel0 tt ι M s c) : BCRel tt ι M ti (cs.toList.take off ++ vs ++ cs.toList.drop (off + vs.length)).toArray (.cells (setSVs l off ss)) := by
  obtain ⟨h1, h2, h3⟩ := h
  refine ⟨?_, by rw [setSVs_length]; exact h2, ?_⟩
  · simp; omega
  · intro i s c hs hc
    rw [setSVs_get _ _ _ _ (by omega)] at hs
    rw [List.getElem?_toArray, seg_get _ _ _ _ (by rw [Array.length_toList]; exact ho)] at hc
    rw [hl] at hs
    by_cases hi : off ≤ i ∧ i < off + vs.length
    · rw [if_pos hi] at hs hc; exact hr _ s c hs hc
    · rw [if_neg hi] at hs hc; rw [Array.getElem?_toList] at hc; exact h3 i s c hs hc

theorem Rep.cells_one {P : Program} {tt : TT} (hT : TTok P tt) {M : Mem} {t : TypeId} {ti : TI} (ht : lk t tt = some ti) {v : Value} {d : D} (h : Rep tt M ti.kt v d) : ∀ c ∈ v.cells.toList, c.oneCell' = true := by
  obtain ⟨h1, h2, h3⟩ := h.kt_cells hT ht
  intro c hc
  obtain ⟨i, hi, rfl⟩ := List.mem_iff_getElem.1 hc
  rw [Array.length_toList] at hi
  have hr := h3 i (by omega) hi (by omega)
  rw [Array.getElem_toList]
  exact (hr.cells_single ((hT t ti ht).single _ (List.getElem_mem _))).2.2

theorem SVRel0.one {tt : TT} {ι : Nat → Value} {M : Mem} {s : SV} {v : Value} {k : KT} (hk : k.single = true) (h : SVRel0 tt ι M s v) (hs : (∃ d, s = .val k d) ∨ s = .nil ∨ (∃ id, s = .own id)) : v.oneCell' = true ∧ v.cells = #[v] := by
  rcases hs with ⟨d, rfl⟩ | rfl | ⟨id, rfl⟩
  · have h' : Rep tt M k v d := h
    exact ⟨(h'.cells_single hk).2.2, (h'.cells_single hk).1⟩
  · have h' : v = .slice none 0 0 := h
    rw [h']; exact ⟨rfl, rfl⟩
  · obtain ⟨h', a, n, c, hι⟩ := h
    rw [h', hι]; exact ⟨rfl, rfl⟩

section
variable {P : Program} {E : Env} (hT : TTok P E.tt) {draw : Bool} {st : St} {ops : List Oper} {L : List (Nat × Bool)} {a : Act} {w w0 : World} {X : Nat → Prop} {Mx : Mem} {ι : Nat → Value} {M : Mem}
  (hev : ∀ x s, ev st ops L x = some s → SVRel E.tt ι M s (a.eval x))
  (H : HRel E.tt X w0 Mx ι M st.objs w) (hwf : WF st)

include H hwf in
/-- An object's content replaced, in its own block. -/
theorem write_step {id : Nat} {ob ob' : Obj} (hob : st.objs id = some ob) {b : Nat} (hb : blockOf (ι id) = some b) {cs : Array Value} (hnew : ObjRel E.tt ι M (w.setRow b cs) id ob')
    (hrefs : ∀ i, i ∈ objRefs0 ob' → ∃ o, st.objs i = some o) : Steps1 E.tt X w0 Mx ι M st { st with objs := put st.objs id (some ob') } (w.setRow b cs) .gone undef := by
  have hin : ∀ i o, st.objs i = some o → ∃ o, put st.objs id (some ob') i = some o := by
    intro i o ho
    by_cases hi : i = id
    · subst hi; exact ⟨ob', put_same _ _ _⟩
    · exact ⟨o, by rw [put_other _ _ _ hi]; exact ho⟩
  refine ⟨ι, ?_, fun t s1 hs1 => ⟨s1, hs1, fun v0 h => h⟩, trivial, rfl, ⟨?_, ?_⟩, fun i hi => by cases hi⟩
  · have := H.change (grown_setRow w b cs) (id := id) (x := ι id) (fun b' hb' => ⟨⟨ob, hob⟩, by injection hb' with hb'; rw [← hb']; exact hb⟩) (fun b' hb' => .inl ⟨⟨ob, hob⟩, hb'⟩) (objs' := put st.objs id (some ob')) ?_ ?_
    · rwa [put_self] at this
    · intro i o' hi ho'
      rw [put_other _ _ _ hi] at ho'
      exact ⟨o', ho', fun hr hh => by rw [put_self]; exact hr.same hh⟩
    · intro o' ho'
      rw [put_same] at ho'
      injection ho' with ho'; subst ho'
      rw [put_self]; exact hnew
  · intro t s1 hs1 i hi
    obtain ⟨o, ho⟩ := hwf.slots t s1 hs1 i hi
    exact hin i o ho
  · intro j o hj i hi
    by_cases hji : j = id
    · subst hji
      simp only [put_same, Option.some.injEq] at hj
      subst hj
      obtain ⟨o2, ho2⟩ := hrefs i hi
      exact hin i o2 ho2
    · simp only [put_other _ _ _ hji] at hj
      obtain ⟨o2, ho2⟩ := hwf.cells j o hj i hi
      exact hin i o2 ho2

theorem SVRel0.known {tt : TT} {ι : Nat → Value} {M : Mem} {s : SV} {v : Value} (hk : knownC s = true) (h : SVRel0 tt ι M s v) : v.oneCell' = true := by
  cases s with
  | val k d =>
    have h' : Rep tt M k v d := h
    exact (h'.cells_single (by cases k <;> first | rfl | cases hk)).2.2
  | nil =>
    have h' : v = .slice none 0 0 := h
    rw [h']; rfl
  | own i =>
    obtain ⟨h', a, n, c, hι⟩ := h
    rw [h', hι]; rfl
  | selfn i =>
    rcases h with h' | ⟨b, _, h'⟩ <;> rw [h'] <;> rfl
  | _ => cases hk
theorem allKnown_mem {l : List SV} (h : allKnown l = true) : ∀ s ∈ l, knownC s = true := by
  induction l with
  | nil => intro s hs; cases hs
  | cons x r ih =>
    intro s hs
    simp only [allKnown] at h
    cases hx : knownC x with
    | false => rw [hx] at h; cases h
    | true =>
      rw [hx] at h
      rcases List.mem_cons.1 hs with rfl | hs
      · exact hx
      · exact ih h s hs

theorem boxStore_cases {tt : TT} {t : TypeId} {ti : TI} {c c' : BC} {off : Nat} {k : KT} {s : SV} (h : boxStore tt t ti c off k s = some c') :
    (∃ q d, k = .agg q ∧ svD k s = some d ∧ ((off = 0 ∧ q = t ∧ c' = .whole d) ∨ ∃ tu, lk q tt = some tu ∧ c' = .cells (setSVs (c.toCells ti) off (expand tu.cells d 0)))) ∨
    (k.single = true ∧ c' = .cells ((c.toCells ti).set off s) ∧ ((∃ d, s = .val k d) ∨ s = .nil ∨ ∃ id, s = .own id)) ∨
    (∃ q ks l, k = .agg q ∧ s = .sag q ks l ∧ allKnown l = true ∧ c' = .cells (setSVs (c.toCells ti) off l)) := by
  cases k with
  | agg q =>
    by_cases hsag : ∃ u ks l, s = .sag u ks l
    · obtain ⟨u, ks, l, rfl⟩ := hsag
      right; right
      simp only [boxStore] at h
      replace h := cond_some.1 h
      obtain ⟨hc, h⟩ := h
      injection h with h
      simp only [Bool.and_eq_true] at hc
      have hc1 := beq_iff.1 hc.1
      subst hc1
      exact ⟨q, ks, l, rfl, rfl, hc.2, h.symm⟩
    left
    have h : (match svD (.agg q) s with
      | some d => cond (Nat.beq off 0 && Nat.beq q t) (some (BC.whole d)) (match lk q tt with
        | some tu => some (.cells (setSVs (c.toCells ti) off (expand tu.cells d 0)))
        | none => none)
      | none => none) = some c' := by
      cases s with
      | sag u ks l => exact absurd ⟨u, ks, l, rfl⟩ hsag
      | _ => exact h
    cases hd : svD (.agg q) s with
    | none => rw [hd] at h; cases h
    | some d =>
      rw [hd] at h
      simp only at h
      refine ⟨q, d, rfl, rfl, ?_⟩
      cases hc : (Nat.beq off 0 && Nat.beq q t) with
      | true =>
        rw [hc] at h
        injection h with h
        simp only [Bool.and_eq_true] at hc
        exact .inl ⟨beq_iff.1 hc.1, beq_iff.1 hc.2, h.symm⟩
      | false =>
        rw [hc] at h
        simp only [cond_false] at h
        cases hu : lk q tt with
        | none => rw [hu] at h; cases h
        | some tu =>
          rw [hu] at h
          injection h with h
          exact .inr ⟨tu, rfl, h.symm⟩
  | bool | int _ | str | ptr | map | any =>
    all_goals
      right; left
      refine ⟨rfl, ?_⟩
      cases s with
      | val k' d =>
        simp only [boxStore] at h
        replace h := cond_some.1 h
        obtain ⟨he, h⟩ := h
        have he := KT.eq_iff.1 he
        subst he
        injection h with h
        exact ⟨h.symm, .inl ⟨d, rfl⟩⟩
      | _ => simp [boxStore] at h
  | slice e =>
    right; left
    refine ⟨rfl, ?_⟩
    cases s with
    | val k' d =>
      simp only [boxStore] at h
      replace h := cond_some.1 h
      obtain ⟨he, h⟩ := h
      have he := KT.eq_iff.1 he
      subst he
      injection h with h
      exact ⟨h.symm, .inl ⟨d, rfl⟩⟩
    | nil => simp only [boxStore] at h; injection h with h; exact ⟨h.symm, .inr (.inl rfl)⟩
    | own id => simp only [boxStore] at h; injection h with h; exact ⟨h.symm, .inr (.inr ⟨id, rfl⟩)⟩
    | _ => simp [boxStore] at h

include hT hev H hwf in
theorem store_sound {o : Oper} {t : TypeId} {x y : Operand} (ho : o.op = .store t x y) {c : Bool} {id : Nat} {ob : Obj} {scr : Bool} {v : SV} (h : storeO E st ops L t x y = some (.ob c id ob scr v)) : Does P E.tt X w0 Mx ι M a w o st (obSt st id ob scr) v := by
  unfold storeO at h
  replace h := opt_some.1 h
  obtain ⟨ti, ht, h⟩ := h
  replace h := opt_some.1 h
  obtain ⟨s1, hs1, h⟩ := h
  replace h := opt_some.1 h
  obtain ⟨sv, hsv, h⟩ := h
  have hr1 := hev x s1 hs1
  have hr2 := hev y sv hsv
  obtain ⟨inf, hinf, hsz, _⟩ := (hT t ti ht).info
  have hexec : execOp a.eval o = (do Instr.storeAt t (a.eval x) (a.eval y); pure .skip) := by simp [execOp, ho]
  have hrun : ∀ (b off : Nat) (cs : Array Value) (tb : TypeId) (fr : Nat × Nat), a.eval x = .pointer (some ⟨b, off, none⟩) → (a.eval y).cells.size = ti.cells.length → w.heap[b]? = some (.cells cs tb fr) → (cs.size ≤ fr.1 ∨ fr.2 ≤ fr.1) → off + ti.cells.length ≤ cs.size →
      (∀ c ∈ (a.eval y).cells.toList, c.oneCell' = true) → (execOp a.eval o).run P w = .ok .skip (w.setRow b (cs.toList.take off ++ (a.eval y).cells.toList ++ cs.toList.drop (off + (a.eval y).cells.toList.length)).toArray) := by
    intro b off cs tb fr hx hys hheap hfr hle hone
    have hst := run_storeCells_fr P b off tb fr (a.eval y).cells.toList 0 cs w hheap hfr (by rw [Array.length_toList]; omega) hone
    rw [hexec, hx]
    simp only [Instr.storeAt, Instr.sureAddr, pure_bind, storeVar, Sem.run_bind, run_size hinf, Result.andThen_ok, hsz, hys]
    rw [if_neg (by simp)]
    simp only [Sem.run_pure, Result.andThen_ok, Nat.add_zero] at hst ⊢
    rw [hst]; rfl
  split at h
  · rename_i id u' off k
    replace h := cond_some.1 h
    obtain ⟨hk, h⟩ := h
    have hk := KT.eq_iff.1 hk
    obtain ⟨hka, b, hι, hv⟩ := hr1
    cases hob : st.objs id with
    | none => rw [hob] at h; cases h
    | some ob =>
      rw [hob] at h
      have hor := H.obj id ob hob
      cases ob with
      | arr e es => cases h
      | map _ _ => cases h
      | box u bc =>
        replace h := cond_some.1 h
        obtain ⟨hu, h⟩ := h
        have hu := beq_iff.1 hu
        subst hu
        replace h := opt_some.1 h
        obtain ⟨ui, hui, h⟩ := h
        replace h := opt_some.1 h
        obtain ⟨c', hc', h⟩ := h
        injection h with h; injection h with h1 h2 h3 h4 h5; subst h1 h2 h3 h4 h5
        obtain ⟨ui', b', cs, hui', hι', hheap, hbc⟩ := hor
        rw [hui] at hui'; cases hui'
        rw [hι] at hι'; injection hι' with hι'; injection hι' with hι'; injection hι' with hb; subst hb
        obtain ⟨ui2, t', ti', hu2, ht', hk3, hcc, hll⟩ := hka
        rw [hui] at hu2; cases hu2
        have hcs := (toCells_rel hT hui hbc).1
        have hlen : ti'.cells.length = ti.cells.length := by
          cases hkk : k with
          | agg q =>
            have e1 := (hT _ _ ht').agg_self (hk3.trans hkk)
            have e2 := (hT _ _ ht).agg_self (hk.symm.trans hkk)
            subst e1; rw [e2] at ht'; rw [ht] at ht'; cases ht'; rfl
          | _ =>
            rw [(hT _ _ ht').cells_of_single (by rw [hk3, hkk]; rfl), (hT _ _ ht).cells_of_single (by rw [← hk, hkk]; rfl)]; rfl
        -- what is stored: cells that hold slots' values
        have hgen : ∀ (ss : List SV), (a.eval y).cells.size = ti.cells.length → (∀ c ∈ (a.eval y).cells.toList, c.oneCell' = true) → ss.length = (a.eval y).cells.toList.length →
            (∀ (i : Nat) (s : SV) (c : Value), ss[i]? = some s → (a.eval y).cells.toList[i]? = some c → SVRel0 E.tt ι M s c) → (∀ i, i ∈ refsL ss → ∃ o, st.objs i = some o) →
            ∀ c'', (c'' = .cells (setSVs (bc.toCells ui) off ss) ∨ (∃ d, c'' = .whole d ∧ off = 0 ∧ (∃ q, ui.kt = .agg q) ∧ Rep E.tt M ui.kt (.agg (a.eval y).cells) d)) →
            Does P E.tt X w0 Mx ι M a w o st { st with objs := put st.objs id (some (.box u c'')) } .gone := by
          intro ss hys hone hsl hsr href c'' hc''
          have hrow := hrun b off cs u (0, 0) hv hys hheap (.inr (Nat.le_refl _)) (by omega) hone
          refine ⟨undef, _, .inr ⟨hrow, rfl⟩, ?_⟩
          refine write_step H hwf hob (by rw [hι]; rfl) ?_ ?_
          · rcases hc'' with rfl | ⟨d, rfl, h0, hag, hrep⟩
            · exact ⟨ui, b, _, hui, hι, setRow_heap w b cs _ u _ hheap, seg_rel (toCells_rel hT hui hbc) hsl (by rw [Array.length_toList]; omega) hsr⟩
            · refine ⟨ui, b, _, hui, hι, setRow_heap w b cs _ u _ hheap, hag, ?_⟩
              subst h0
              have e : (cs.toList.take 0 ++ (a.eval y).cells.toList ++ cs.toList.drop (0 + (a.eval y).cells.toList.length)).toArray = (a.eval y).cells := by
                have : cs.toList.drop (0 + (a.eval y).cells.toList.length) = [] := by
                  apply List.drop_eq_nil_of_le
                  have := (hrep.kt_cells hT hui).1
                  change (a.eval y).cells.size = _ at this
                  rw [Array.length_toList, Array.length_toList]; omega
                rw [this]; simp
              rw [e]; exact hrep
          · rcases hc'' with rfl | ⟨d, rfl, _⟩
            · intro i hi0
              simp only [objRefs0] at hi0
              obtain ⟨s, hs, hi⟩ := mem_refsL.1 hi0
              clear hi0
              obtain ⟨j, hj⟩ := List.getElem?_of_mem hs
              rw [setSVs_get _ _ _ _ (by rw [(toCells_rel hT hui hbc).2.1, hsl, Array.length_toList]; omega)] at hj
              split at hj
              · exact href i (mem_refsL.2 ⟨s, List.mem_of_getElem? hj, hi⟩)
              · cases bc with
                | whole d =>
                  simp only [BC.toCells] at hj
                  rw [expand_get, Option.map_eq_some_iff] at hj
                  obtain ⟨k', _, rfl⟩ := hj
                  simp [refs0] at hi
                | cells l => exact hwf.cells id _ hob i (mem_refsL.2 ⟨s, List.mem_of_getElem? hj, hi⟩)
            · intro i hi; simp [objRefs0] at hi
        have hset : ∀ (l : List SV) (s : SV), l.set off s = setSVs l off [s] := fun l s => rfl
        have hsingle : ∀ s', k.single = true → SVRel0 E.tt ι M s' (a.eval y) → (a.eval y).oneCell' = true ∧ (a.eval y).cells = #[a.eval y] → (∀ i, i ∈ refs0 s' → ∃ o, st.objs i = some o) →
            Does P E.tt X w0 Mx ι M a w o st { st with objs := put st.objs id (some (.box u (.cells ((bc.toCells ui).set off s')))) } .gone := by
          intro s' hks hsr ⟨h1, h2⟩ href
          have hl1 : ti.cells.length = 1 := by rw [(hT _ _ ht).cells_of_single (by rw [← hk]; exact hks)]; rfl
          refine hgen [s'] (by rw [h2, hl1]; rfl) (by rw [h2]; simpa using h1) (by rw [h2]; rfl) ?_ ?_ _ (.inl (by rw [hset]))
          · intro i s c hs hc
            rw [h2] at hc
            cases i with
            | zero => simp at hs hc; subst hs hc; exact hsr
            | succ i => simp at hs
          · intro i hi; simp only [refsL, List.append_nil] at hi; exact href i hi
        rcases boxStore_cases hc' with ⟨q, d, hkq, hd, hcase⟩ | ⟨hks, rfl, hcase⟩ | ⟨q, ks, l, hkq, rfl, hkn, rfl⟩
        · have hrep := svD_rel hd hr2
          have hrt : Rep E.tt M ti.kt (a.eval y) d := by rw [← hk]; exact hrep
          have hys := (hrt.kt_cells hT ht).1
          have hone := hrt.cells_one hT ht
          have htq : q = t := (hT _ _ ht).agg_self (hk.symm.trans hkq)
          have hvagg : ∃ cc, a.eval y = .agg cc := by rw [hkq] at hrep; obtain ⟨_, cs, hv, _⟩ := hrep.inv_agg; exact ⟨_, hv⟩
          have hnoref : ∀ ks : List KT, ∀ i, i ∈ refsL (expand ks d 0) → ∃ o, st.objs i = some o := by
            intro ks i hi0
            obtain ⟨s, hs, hi⟩ := mem_refsL.1 hi0
            clear hi0
            obtain ⟨j, hj⟩ := List.getElem?_of_mem hs
            rw [expand_get, Option.map_eq_some_iff] at hj
            obtain ⟨k', _, rfl⟩ := hj
            simp [refs0] at hi
          rcases hcase with ⟨h0, hq, rfl⟩ | ⟨tu, htu, rfl⟩
          · have hui2 : ui = ti := by rw [← hq, htq, ht] at hui; injection hui with hui; exact hui.symm
            subst hui2
            refine hgen (expand ui.cells d 0) hys hone (by rw [expand_length, Array.length_toList]; omega) (fun i s c hs hc => expand_rel hT hui hrt i s c hs (by rw [← Array.getElem?_toList]; exact hc)) (hnoref _) _ (.inr ⟨d, rfl, h0, ⟨q, hk.symm.trans hkq⟩, ?_⟩)
            obtain ⟨cc, hcc3⟩ := hvagg
            rw [hcc3] at hrt ⊢; exact hrt
          · rw [htq, ht] at htu; cases htu
            exact hgen (expand ti.cells d 0) hys hone (by rw [expand_length, Array.length_toList]; omega) (fun i s c hs hc => expand_rel hT ht hrt i s c hs (by rw [← Array.getElem?_toList]; exact hc)) (hnoref _) _ (.inl rfl)
        · have h0 : SVRel0 E.tt ι M sv (a.eval y) := by rcases hcase with ⟨d, rfl⟩ | rfl | ⟨id', rfl⟩ <;> exact hr2
          refine hsingle sv hks h0 (SVRel0.one hks h0 hcase) (fun i hi => ?_)
          rcases hcase with ⟨d, rfl⟩ | rfl | ⟨id', rfl⟩
          · simp [refs0] at hi
          · simp [refs0] at hi
          · cases y with
            | tmp ty =>
              simp only [ev] at hsv
              replace hsv := cond_some.1 hsv
              exact hwf.slots ty _ hsv.2 i hi
            | const v =>
              simp only [ev] at hsv
              unfold constSV at hsv
              split at hsv
              · cases hsv
              · have := (cond_some.1 hsv).2; cases this
              · have := (cond_some.1 hsv).2; cases this
              · cases hsv
              · cases hsv
              · cases hsv
              · cases hsv
              · cases hsv
            | _ => simp [ev] at hsv
        · obtain ⟨ti3, vs, g1, g2, g3, g4, g5, g6, g7⟩ := hr2
          have htq : q = t := (hT _ _ ht).agg_self (hk.symm.trans hkq)
          rw [htq, ht] at g1; injection g1 with g1; subst g1
          have hyc : (a.eval y).cells = vs.toArray := by rw [g4]; rfl
          have hkl : ks.length = ti.cells.length := by rw [g3]
          refine hgen l (by rw [hyc]; simp; omega) ?_ (by rw [hyc]; simp; omega) ?_ ?_ _ (.inl rfl)
          · intro c hc
            rw [hyc] at hc
            obtain ⟨i, hi⟩ := List.getElem?_of_mem (show c ∈ vs by simpa using hc)
            have hlt : i < l.length := by have := (List.getElem?_eq_some_iff.1 hi).1; omega
            exact (g7 i l[i] c (List.getElem?_eq_getElem hlt) hi).known (allKnown_mem hkn _ (List.getElem_mem hlt))
          · intro i s c hs hc
            rw [hyc] at hc
            exact g7 i s c hs (by simpa using hc)
          · intro i hi
            cases y with
            | tmp ty =>
              simp only [ev] at hsv
              replace hsv := cond_some.1 hsv
              exact hwf.slots ty _ hsv.2 i hi
            | const v =>
              simp only [ev] at hsv
              unfold constSV at hsv
              split at hsv
              · cases hsv
              · have := (cond_some.1 hsv).2; cases this
              · have := (cond_some.1 hsv).2; cases this
              · cases hsv
              · cases hsv
              · cases hsv
              · cases hsv
              · cases hsv
            | _ => simp [ev] at hsv
  · rename_i id e' i off k
    replace h := cond_some.1 h
    obtain ⟨hk, h⟩ := h
    have hk := KT.eq_iff.1 hk
    replace h := opt_some.1 h
    obtain ⟨d, hd, h⟩ := h
    have hrep := svD_rel hd hr2
    have hrt : Rep E.tt M ti.kt (a.eval y) d := by rw [← hk]; exact hrep
    have hys := (hrt.kt_cells hT ht).1
    have hone := hrt.cells_one hT ht
    obtain ⟨hka, b, n, cap, ei, hei, hι, hi0, hin, hv⟩ := hr1
    cases hob : st.objs id with
    | none => rw [hob] at h; cases h
    | some ob =>
      rw [hob] at h
      have hor := H.obj id ob hob
      cases ob with
      | box u bc => cases h
      | map _ _ => cases h
      | arr e es =>
        replace h := cond_some.1 h
        obtain ⟨he, h⟩ := h
        have he := beq_iff.1 he
        subst he
        replace h := opt_some.1 h
        obtain ⟨ei', hei', h⟩ := h
        rw [hei] at hei'; cases hei'
        obtain ⟨ei', hei', hpos, harr⟩ := hor
        rw [hei] at hei'; cases hei'
        rcases harr with ⟨h1, _⟩ | ⟨b', cap', cur, tt', fr, vs, h1, hheap, hlen, hcap, hcur, hfr, hall⟩
        · rw [hι] at h1; cases h1
        · rw [hι] at h1
          injection h1 with h1 h2 h3
          injection h1 with h1
          injection h1 with h1
          subst h1 h2 h3
          have hin' : i.toNat < es.length := by omega
          obtain ⟨hz, hcells, hrepE⟩ := hall i.toNat hin'
          have hget : es.getD i.toNat .no = es[i.toNat] := by simp [List.getD_eq_getElem?_getD, List.getElem?_eq_getElem hin']
          rw [hget] at h
          obtain ⟨ui2, t', ti', hu2, ht', hk3, hcc, hll⟩ := hka
          rw [hei] at hu2; cases hu2
          have htt : ti'.cells = ti.cells := by
            cases hkk : k with
            | agg q =>
              have e1 := (hT _ _ ht').agg_self (hk3.trans hkk)
              have e2 := (hT _ _ ht).agg_self (hk.symm.trans hkk)
              subst e1; rw [e2] at ht'; rw [ht] at ht'; cases ht'; rfl
            | _ =>
              rw [(hT _ _ ht').cells_of_single (by rw [hk3, hkk]; rfl), (hT _ _ ht).cells_of_single (by rw [← hk, hkk]; rfl), hk3, hk]
          rw [htt] at hcc hll
          have hle : i.toNat * ei.cells.length + off + ti.cells.length ≤ cur.size := by
            rw [hcur]
            have h1 : (i.toNat + 1) * ei.cells.length ≤ cap * ei.cells.length := Nat.mul_le_mul_right _ (by omega)
            rw [Nat.add_mul] at h1; omega
          have hyl : (a.eval y).cells.toList.length = ti.cells.length := by rw [Array.length_toList]; exact hys
          have hrow := hrun b (i.toNat * ei.cells.length + off) cur tt' fr hv hys hheap hfr hle hone
          obtain ⟨k1, k2, k3⟩ := hrepE.kt_cells hT hei
          obtain ⟨d1, d2, d3⟩ := hrt.kt_cells hT ht
          have hmain : ∀ (nd : D) (nv : Value), nv.cells.size = ei.cells.length → (∀ j u, nv.cells[j]? = some u → (if off ≤ j ∧ j < off + ti.cells.length then (a.eval y).cells[j - off]? else (vs i.toNat).cells[j]?) = some u) → Rep E.tt M ei.kt nv nd →
              Does P E.tt X w0 Mx ι M a w o st { st with objs := put st.objs id (some (.arr e (es.set i.toNat nd))) } .gone := by
            intro nd nv hnz hnc hnr
            refine ⟨undef, _, .inr ⟨hrow, rfl⟩, write_step H hwf hob (by rw [hι]; rfl) ?_ (fun i hi => by simp [objRefs0] at hi)⟩
            refine ⟨ei, hei, hpos, .inr ⟨b, cap, _, tt', fr, fun j => if j = i.toNat then nv else vs j, ?_, setRow_heap w b cur _ tt' fr hheap, ?_, hcap, ?_, ?_, ?_⟩⟩
            · rw [hι, List.length_set]
            · rw [List.length_set]; exact hlen
            · simp; omega
            · simp; omega
            · intro j hj
              rw [List.length_set] at hj
              by_cases hji : j = i.toNat
              · subst hji
                simp only [if_true]
                refine ⟨hnz, ?_, by simp only [List.getElem_set_self]; exact hnr⟩
                intro q u hu
                have hq := (Array.getElem?_eq_some_iff.1 hu).1
                have := hnc q u hu
                rw [List.getElem?_toArray, seg_get _ _ _ _ (by rw [hyl, Array.length_toList]; exact hle), hyl]
                by_cases hin2 : off ≤ q ∧ q < off + ti.cells.length
                · rw [if_pos hin2] at this
                  rw [if_pos ⟨by omega, by omega⟩, Array.getElem?_toList, ← this]
                  congr 1; omega
                · rw [if_neg hin2] at this
                  rw [if_neg (by omega), Array.getElem?_toList]
                  exact hcells q u this
              · simp only [if_neg hji]
                obtain ⟨z1, z2, z3⟩ := hall j hj
                refine ⟨z1, ?_, by simp only [List.getElem_set]; rw [if_neg (fun e => hji e.symm)]; exact z3⟩
                intro q u hu
                have hq := (Array.getElem?_eq_some_iff.1 hu).1
                have hne : ¬ (i.toNat * ei.cells.length + off ≤ j * ei.cells.length + q ∧ j * ei.cells.length + q < i.toNat * ei.cells.length + off + ti.cells.length) := by
                  rcases Nat.lt_or_gt_of_ne hji with hlt | hgt
                  · have h2 : (j + 1) * ei.cells.length ≤ i.toNat * ei.cells.length := Nat.mul_le_mul_right _ hlt
                    rw [Nat.add_mul] at h2; omega
                  · have h2 : (i.toNat + 1) * ei.cells.length ≤ j * ei.cells.length := Nat.mul_le_mul_right _ hgt
                    rw [Nat.add_mul] at h2; omega
                rw [List.getElem?_toArray, seg_get _ _ _ _ (by rw [hyl, Array.length_toList]; exact hle), hyl, if_neg hne, Array.getElem?_toList]
                exact z2 q u hu
          revert h
          cases hcond : (Nat.beq off 0 && KT.eq k ei.kt) with
          | true =>
            intro h
            injection h with h; injection h with h1 h2 h3 h4 h5; subst h1 h2 h3 h4 h5
            simp only [Bool.and_eq_true] at hcond
            have h0 := beq_iff.1 hcond.1
            have hke := KT.eq_iff.1 hcond.2
            have h5 : Rep E.tt M ei.kt (a.eval y) d := by rw [← hke]; exact hrep
            have h6 := (h5.kt_cells hT hei).1
            refine hmain d (a.eval y) h6 ?_ h5
            intro j u hu
            have hj := (Array.getElem?_eq_some_iff.1 hu).1
            rw [if_pos ⟨by omega, by omega⟩, h0]; exact hu
          | false =>
            simp only [cond_false]
            intro h
            replace h := cond_some.1 h
            obtain ⟨hag, h⟩ := h
            injection h with h; injection h with h1 h2 h3 h4 h5; subst h1 h2 h3 h4 h5
            have hagg : ∃ q, ei.kt = .agg q := by
              cases hk' : ei.kt <;> rw [hk'] at hag <;> first | exact ⟨_, rfl⟩ | simp [isAggK] at hag
            obtain ⟨q, hq⟩ := hagg
            have hqe := (hT _ _ hei).agg_self hq
            subst hqe
            have hsp : setPart es[i.toNat] off k d = .agg (setCells es[i.toNat].cells off d.cells) := by
              cases hkk : k with
              | agg q => rfl
              | _ =>
                have := (hrep.cells_single (by rw [hkk]; rfl)).2.1
                rw [this]; rfl
            rw [hsp]
            have hl8 : off + (a.eval y).cells.toList.length ≤ (vs i.toNat).cells.toList.length := by rw [hyl, Array.length_toList, k1]; exact hll
            refine hmain _ (.agg ((vs i.toNat).cells.toList.take off ++ (a.eval y).cells.toList ++ (vs i.toNat).cells.toList.drop (off + (a.eval y).cells.toList.length)).toArray) ?_ ?_ ?_
            · show (List.toArray _).size = _
              simp only [List.size_toArray, List.length_append, List.length_take, List.length_drop]
              rw [Array.length_toList] at hl8 ⊢
              omega
            · intro j u hu
              change (List.toArray _)[j]? = some u at hu
              rw [List.getElem?_toArray, seg_get _ _ _ _ hl8, hyl] at hu
              simpa using hu
            · rw [hq]
              refine .agg q ei _ _ hei hq ?_ (by rw [setCells_length]; exact k2) ?_
              · simp only [List.length_append, List.length_take, List.length_drop]
                rw [Array.length_toList] at hl8 ⊢
                omega
              · intro j h1 h2 h3
                have g1 := seg_get (vs i.toNat).cells.toList (a.eval y).cells.toList off j hl8
                have g2 := setCells_get d.cells es[i.toNat].cells off j (by omega)
                rw [List.getElem?_eq_getElem h2] at g1
                rw [List.getElem?_eq_getElem h3] at g2
                by_cases hin2 : off ≤ j ∧ j < off + ti.cells.length
                · rw [if_pos ⟨hin2.1, by rw [hyl]; exact hin2.2⟩] at g1
                  rw [if_pos ⟨hin2.1, by rw [d2]; exact hin2.2⟩] at g2
                  rw [Array.getElem?_toList, Array.getElem?_eq_getElem (by omega)] at g1
                  rw [List.getElem?_eq_getElem (by omega)] at g2
                  injection g1 with g1; injection g2 with g2
                  rw [g1, g2]
                  have h4 := congrArg (fun l => l[j - off]?) hcc
                  simp only [List.getElem?_take, List.getElem?_drop] at h4
                  rw [if_pos (by omega), show off + (j - off) = j by omega, List.getElem?_eq_getElem h1, List.getElem?_eq_getElem (by omega)] at h4
                  injection h4 with h4
                  rw [h4]
                  exact d3 (j - off) (by omega) (by omega) (by omega)
                · rw [if_neg (by rw [hyl]; exact hin2)] at g1
                  rw [if_neg (by rw [d2]; exact hin2)] at g2
                  rw [Array.getElem?_toList, Array.getElem?_eq_getElem (by omega)] at g1
                  rw [List.getElem?_eq_getElem (by omega)] at g2
                  injection g1 with g1; injection g2 with g2
                  rw [g1, g2]
                  exact k3 j h1 (by omega) (by omega)
  · cases h

end
end Go.Proofs.YtcmeincdmphaoaaDoor.DS

namespace Go.Proofs.YtcmeincdmphaoaaDoor.DS
open Go.RowKit

/-- The cells of n values, one behind the other. -/
def flat (vs : Nat → Value) (n size : Nat) : List Value := (List.range (n * size)).map fun j => (vs (j / size)).cells.getD (j % size) undef
theorem flat_length (vs : Nat → Value) (n size : Nat) : (flat vs n size).length = n * size := by simp [flat]
theorem flat_get {vs : Nat → Value} {n size i j : Nat} (hi : i < n) (hj : j < size) (hz : (vs i).cells.size = size) : (flat vs n size)[i * size + j]? = (vs i).cells[j]? := by
  have hlt : i * size + j < n * size := by
    have : (i + 1) * size ≤ n * size := Nat.mul_le_mul_right _ hi
    rw [Nat.add_mul] at this; omega
  have e1 : (i * size + j) / size = i := by
    rw [Nat.mul_comm, Nat.mul_add_div (by omega)]; simp [Nat.div_eq_of_lt hj]
  have e2 : (i * size + j) % size = j := by
    rw [Nat.mul_comm, Nat.mul_add_mod]; exact Nat.mod_eq_of_lt hj
  unfold flat
  rw [List.getElem?_map, List.getElem?_range hlt]
  simp [e1, e2, Array.getD, hz, hj]
theorem flat_mem {vs : Nat → Value} {n size : Nat} {p : Value → Prop} (hz : ∀ i, i < n → (vs i).cells.size = size) (hp : ∀ i, i < n → ∀ c ∈ (vs i).cells.toList, p c) : ∀ c ∈ flat vs n size, p c := by
  intro c hc
  obtain ⟨k, hk, rfl⟩ := List.mem_iff_getElem.1 hc
  rw [flat_length] at hk
  have hs : 0 < size := by rcases Nat.eq_zero_or_pos size with h | h; (subst h; simp at hk); exact h
  have h1 : k / size < n := (Nat.div_lt_iff_lt_mul hs).2 hk
  have h2 : k % size < size := Nat.mod_lt _ hs
  have h3 := flat_get (vs := vs) h1 h2 (hz _ h1)
  rw [Nat.mul_comm, Nat.div_add_mod, List.getElem?_eq_getElem (by rw [flat_length]; exact hk)] at h3
  refine hp _ h1 _ ?_
  rw [Array.mem_toList_iff]
  exact Array.mem_of_getElem? h3.symm

/-- What is appended. -/
structure Src (P : Program) (tt : TT) (M : Mem) (w : World) (ei : TI) (x : Value) (ds : List D) (vs : Nat → Value) : Prop where
  len : ∀ w', (Builtin.lenOf x).run P w' = .ok ds.length w'
  cells : ∀ w', w'.heap = w.heap → (Builtin.firstCells ei.cells.length ds.length x).run P w' = .ok (flat vs ds.length ei.cells.length).toArray w'
  each : ∀ i (h : i < ds.length), (vs i).cells.size = ei.cells.length ∧ Rep tt M ei.kt (vs i) ds[i]

section
variable {P : Program} {tt : TT} (hT : TTok P tt) {M : Mem} {w : World}

theorem src_slice {e : TypeId} {ei : TI} (hei : lk e tt = some ei) {ad : Addr} (hs : ad.spot = none) {len cap : Nat} {xs : List D} {vs : Nat → Value} (hl : xs.length = len) (hz : ∀ i, i < xs.length → (vs i).cells.size = ei.cells.length)
    (hc : ∀ i j u, i < xs.length → (vs i).cells[j]? = some u → w.cell? ⟨ad.block, ad.off + (i * ei.cells.length + j), none⟩ = some u) (hr : ∀ i (h : i < xs.length), Rep tt M ei.kt (vs i) xs[i]) :
    Src P tt M w ei (.slice (some ad) len cap) xs vs := by
  refine ⟨fun w' => by simp [Builtin.lenOf, hl], fun w' hw' => ?_, fun i h => ⟨hz i h, hr i h⟩⟩
  refine run_firstCells_some w' _ _ ad len cap _ (by rw [flat_length]) (fun k v hk => ?_)
  have hk' := (List.getElem?_eq_some_iff.1 hk).1
  rw [flat_length] at hk'
  have hs' : 0 < ei.cells.length := by rcases Nat.eq_zero_or_pos ei.cells.length with h | h; (rw [h] at hk'; simp at hk'); exact h
  have h1 : k / ei.cells.length < xs.length := (Nat.div_lt_iff_lt_mul hs').2 hk'
  have h2 : k % ei.cells.length < ei.cells.length := Nat.mod_lt _ hs'
  have h3 := flat_get (vs := vs) h1 h2 (hz _ h1)
  have h4 : k / ei.cells.length * ei.cells.length + k % ei.cells.length = k := by rw [Nat.mul_comm]; exact Nat.div_add_mod _ _
  rw [h4, hk] at h3
  have h5 := hc _ _ _ h1 h3.symm
  rw [h4] at h5
  rw [add_spot _ hs, ← h5]
  simp [World.cell?, hw']

theorem src_nil {ei : TI} {len cap : Nat} (h0 : len = 0) (a : Option Addr) (ha : a = none ∨ ∃ ad, a = some ad) : Src P tt M w ei (.slice a len cap) [] (fun _ => undef) := by
  subst h0
  refine ⟨fun w' => by simp [Builtin.lenOf], fun w' _ => ?_, fun i h => absurd h (by simp)⟩
  rcases ha with rfl | ⟨ad, rfl⟩
  · simp [Builtin.firstCells, flat]
  · simp [Builtin.firstCells, loadCells, loadCellsFrom, flat]

theorem byte_rep (b : UInt8) : Rep tt M (.int .u8) (.int .u8 (b.toNat : Int)) (.int (b.toNat : Int)) := by
  refine .int _ _ ?_
  have := b.toNat_lt
  simp only [Lit.wf, IntKind.min, IntKind.max, IntKind.signed, IntKind.bits, Bool.and_eq_true, decide_eq_true_eq]
  simp; omega

include hT in
theorem src_str {e : TypeId} {ei : TI} (hei : lk e tt = some ei) (hk : ei.kt = .int .u8) (s : ByteArray) : Src P tt M w ei (.string s) (bytesD s.data.toList) (fun i => .int .u8 ((s.data.toList.getD i 0).toNat : Int)) := by
  have hc1 := (hT e ei hei).cells_of_single (by rw [hk]; rfl)
  have hl1 : ei.cells.length = 1 := by rw [hc1]; rfl
  have hsz : (bytesD s.data.toList).length = s.size := by simp [bytesD]
  refine ⟨fun w' => by simp [Builtin.lenOf, hsz], fun w' _ => ?_, fun i h => ?_⟩
  · simp only [Builtin.firstCells, Sem.run_pure]
    congr 1
    apply Array.ext'
    rw [hl1, hsz]
    apply List.ext_getElem?
    intro i
    rw [Array.toList_map, List.getElem?_map]
    have e1 : (s.extract 0 s.size).data.toList = s.data.toList := by simp
    rw [e1]
    by_cases hi : i < s.size
    · have hi' : i < s.data.toList.length := by rw [Array.length_toList]; exact hi
      rw [List.getElem?_eq_getElem hi']
      simp only [flat, Nat.mul_one, List.getElem?_map, List.getElem?_range hi, Option.map_some, Nat.div_one, Nat.mod_one]
      simp [Value.cells, List.getD_eq_getElem?_getD, List.getElem?_eq_getElem hi', show i < s.data.size from hi]
    · rw [List.getElem?_eq_none (by rw [Array.length_toList]; exact Nat.le_of_not_lt hi), List.getElem?_eq_none (by rw [flat_length]; omega)]; rfl
  · refine ⟨by rw [hl1]; rfl, ?_⟩
    rw [hk]
    have hi : i < s.data.toList.length := by simpa [bytesD] using h
    have e : (bytesD s.data.toList)[i] = .int ((s.data.toList.getD i 0).toNat : Int) := by
      simp [bytesD, List.getD_eq_getElem?_getD, List.getElem?_eq_getElem hi]
    rw [e]
    exact byte_rep _

/-- A row of two parts. -/
theorem each_append {ei : TI} {es ds : List D} {vs vx : Nat → Value} (h1 : ∀ i (h : i < es.length), (vs i).cells.size = ei.cells.length ∧ Rep tt M ei.kt (vs i) es[i]) (h2 : ∀ i (h : i < ds.length), (vx i).cells.size = ei.cells.length ∧ Rep tt M ei.kt (vx i) ds[i]) :
    ∀ i (h : i < (es ++ ds).length), ((fun i => if i < es.length then vs i else vx (i - es.length)) i).cells.size = ei.cells.length ∧ Rep tt M ei.kt ((fun i => if i < es.length then vs i else vx (i - es.length)) i) (es ++ ds)[i] := by
  intro i h
  simp only
  by_cases hi : i < es.length
  · simp only [hi, if_true, List.getElem_append_left hi]; exact h1 i hi
  · have h' : i - es.length < ds.length := by simp at h; omega
    simp only [hi, if_false, List.getElem_append_right (Nat.le_of_not_lt hi)]
    exact h2 _ h'

theorem flat_append {es ds : List D} {vs vx : Nat → Value} {size : Nat} (h1 : ∀ i, i < es.length → (vs i).cells.size = size) (h2 : ∀ i, i < ds.length → (vx i).cells.size = size) (hs : 0 < size) :
    flat (fun i => if i < es.length then vs i else vx (i - es.length)) (es.length + ds.length) size = flat vs es.length size ++ flat vx ds.length size := by
  apply List.ext_getElem?
  intro k
  by_cases hk : k < (es.length + ds.length) * size
  · have hd : k / size < es.length + ds.length := (Nat.div_lt_iff_lt_mul hs).2 hk
    have hm : k % size < size := Nat.mod_lt _ hs
    have hdm : k / size * size + k % size = k := by rw [Nat.mul_comm]; exact Nat.div_add_mod _ _
    have hz : ((fun i => if i < es.length then vs i else vx (i - es.length)) (k / size)).cells.size = size := by
      by_cases hlt : k / size < es.length
      · simp only [hlt, if_true]; exact h1 _ hlt
      · simp only [hlt, if_false]; exact h2 _ (by omega)
    have h3 := flat_get (vs := fun i => if i < es.length then vs i else vx (i - es.length)) hd hm hz
    rw [hdm] at h3
    clear hz
    rw [h3]
    by_cases hlt : k / size < es.length
    · rw [if_pos hlt, List.getElem?_append_left (by rw [flat_length]; exact (Nat.div_lt_iff_lt_mul hs).1 hlt), ← flat_get hlt hm (h1 _ hlt), hdm]
    · rw [if_neg hlt]
      have hge : es.length * size ≤ k := by
        have := (Nat.le_div_iff_mul_le hs).1 (Nat.le_of_not_lt hlt); exact this
      rw [List.getElem?_append_right (by rw [flat_length]; exact hge), flat_length, ← flat_get (n := ds.length) (show k / size - es.length < ds.length by omega) hm (h2 _ (by omega))]
      congr 1
      rw [Nat.sub_mul]
      have hge2 : es.length * size ≤ k / size * size := Nat.mul_le_mul_right _ (Nat.le_of_not_lt hlt)
      omega
  · rw [List.getElem?_eq_none (by rw [flat_length]; omega), List.getElem?_eq_none (by rw [List.length_append, flat_length, flat_length, ← Nat.add_mul]; omega)]

theorem zeroCells_size (z : Array Value) (n : Nat) : (Builtin.zeroCells z n).size = n * z.size := by simp [Builtin.zeroCells]

/-- The three ways of append. -/
theorem run_app_room {t xt ty e : TypeId} {inf : TypeInfo} (ht : P.underlying t = some (.slice e)) (hxt : (∃ e2, P.underlying xt = some (.slice e2)) ∨ P.underlying xt = some .string) (hinf : P.info? e = some inf) {x : Value} {m : Nat} {news : Array Value}
    (hlen : (Builtin.lenOf x).run P w = .ok m w) (hfc : (Builtin.firstCells inf.size m x).run P w = .ok news w) {a : Addr} {n cap : Nat} (hroom : n + m ≤ cap) {w' : World} (hst : (storeCells (a.add (n * inf.size)) news.toList).run P w = .ok () w') :
    (Builtin.append_ #[t, xt] ty #[.slice (some a) n cap, x]).run P w = .ok (.slice (some a) (n + m) cap) w' := by
  have hlen2 : ∀ s, (Builtin.lenOf (Value.slice s n cap)).run P w = .ok n w := fun s => by simp [Builtin.lenOf]
  rcases hxt with ⟨e2, hx⟩ | hx <;>
  simp [Builtin.append_, run_underlying ht, run_underlying hx, run_size hinf, hlen, hroom, hfc, hst]
theorem run_app_none {t xt ty e : TypeId} {inf : TypeInfo} (ht : P.underlying t = some (.slice e)) (hxt : (∃ e2, P.underlying xt = some (.slice e2)) ∨ P.underlying xt = some .string) (hinf : P.info? e = some inf) {x : Value}
    (hlen : (Builtin.lenOf x).run P w = .ok 0 w) {news : Array Value} (hfc : (Builtin.firstCells inf.size 0 x).run P w = .ok news w) :
    (Builtin.append_ #[t, xt] ty #[.slice none 0 0, x]).run P w = .ok (.slice none 0 0) w := by
  rcases hxt with ⟨e2, hx⟩ | hx <;>
  simp [Builtin.append_, run_underlying ht, run_underlying hx, run_size hinf, hlen, hfc]
theorem run_app_grow {t xt ty e : TypeId} {inf : TypeInfo} {z : Value} (ht : P.underlying t = some (.slice e)) (hxt : (∃ e2, P.underlying xt = some (.slice e2)) ∨ P.underlying xt = some .string) (hinf : P.info? e = some inf) (hz : inf.zero = some z) (hbz : inf.bytes ≠ 0) {x : Value} {m : Nat} {news olds : Array Value}
    (hlen : (Builtin.lenOf x).run P w = .ok m w) (hfc : (Builtin.firstCells inf.size m x).run P w.drew = .ok news w.drew) {s : Option Addr} {n cap : Nat} (hfo : (Builtin.firstCells inf.size n (.slice s n cap)).run P w.drew = .ok olds w.drew) (hroom : ¬ n + m ≤ cap)
    (h48 : ¬ (281474976710656 < Builtin.nextslicecap (n + m) cap * inf.bytes)) :
    (Builtin.append_ #[t, xt] ty #[.slice s n cap, x]).run P w = .ok (.slice (some ⟨w.heap.size, 0, none⟩) (n + m) (grownCap w (n + m) cap e)) (w.drew.alloc (.cells (olds ++ news ++ Builtin.zeroCells z.cells (grownCap w (n + m) cap e - (n + m))) e)) := by
  have h2 : (zeroValue e).run P w.drew = .ok z w.drew := by simp [zeroValue, run_info hinf, hz]
  rcases hxt with ⟨e2, hx⟩ | hx <;>
  simp [Builtin.append_, run_underlying ht, run_underlying hx, run_size hinf, run_info hinf, hlen, hroom, hbz, h48, Question.forced, hfc, hfo, h2, newRow, grownCap]

include hT in
/-- append, whatever there is room for. -/
theorem append_core {t xt e : TypeId} {ei : TI} (ht : P.underlying t = some (.slice e)) (hxt : (∃ e2, P.underlying xt = some (.slice e2)) ∨ P.underlying xt = some .string) (hei : lk e tt = some ei) (hpos : 0 < ei.cells.length) (hb1 : 1 ≤ ei.bytes) (hb : ei.bytes ≤ 2048)
    {h x : Value} {es ds : List D} {vx : Nat → Value} (harr : ArrRel tt M w e ei h es) (hsrc : Src P tt M w ei x ds vx) (hlim : es.length + ds.length ≤ lim) (ty : TypeId) :
    ∃ h' w', (Builtin.append_ #[t, xt] ty #[h, x]).run P w = .ok h' w' ∧ ArrRel tt M w' e ei h' (es ++ ds) ∧ w.grownBy w' (blockOf h) ∧ (blockOf h' = blockOf h ∨ blockOf h' = some w.heap.size) ∧ ∃ a n c, h' = .slice a n c := by
  obtain ⟨inf, hinf, hsz, hby⟩ := (hT e ei hei).info
  obtain ⟨inf', z, hinf', hz, hzs, _, _, _⟩ := (hT e ei hei).zero
  rw [hinf] at hinf'; cases hinf'
  have hmaxLen : maxLen = 9223372036854775807 := by decide
  have hxone : ∀ c ∈ flat vx ds.length ei.cells.length, c.oneCell' = true :=
    flat_mem (fun i hi => (hsrc.each i hi).1) (fun i hi => ((hsrc.each i hi).2).cells_one hT hei)
  -- the new row
  have hnew : ∀ (old : List Value) (vs : Nat → Value), old = flat vs es.length ei.cells.length → (∀ i (hi : i < es.length), (vs i).cells.size = ei.cells.length ∧ Rep tt M ei.kt (vs i) es[i]) →
      ∀ cap, es.length + ds.length ≤ cap → cap ≤ maxLen →
      ArrRel tt M (w.drew.alloc (.cells (old.toArray ++ (flat vx ds.length ei.cells.length).toArray ++ Builtin.zeroCells z.cells (cap - (es.length + ds.length))) e)) e ei (.slice (some ⟨w.heap.size, 0, none⟩) (es.length + ds.length) cap) (es ++ ds) := by
    intro old vs hold heach cap hcap hcm
    refine .inr ⟨w.heap.size, cap, _, ⟨e, rfl⟩, (0, 0), fun i => if i < es.length then vs i else vx (i - es.length), by rw [List.length_append], heap_alloc_new w.drew _, by rw [List.length_append]; exact hcap, hcm, ?_, .inr (Nat.le_refl _), ?_⟩
    · simp only [Array.size_append, List.size_toArray, zeroCells_size, hzs, hold, flat_length, ← Nat.add_mul]
      congr 1; omega
    · intro i hi
      have hea := each_append heach hsrc.each i hi
      refine ⟨hea.1, ?_, hea.2⟩
      intro j u hu
      have hj := (Array.getElem?_eq_some_iff.1 hu).1
      rw [hea.1] at hj
      have hfl := flat_append (es := es) (ds := ds) (vs := vs) (vx := vx) (fun i hi => (heach i hi).1) (fun i hi => (hsrc.each i hi).1) hpos
      have hi' : i < es.length + ds.length := by simpa using hi
      have h3 := flat_get (vs := fun i => if i < es.length then vs i else vx (i - es.length)) hi' hj hea.1
      have hlt : i * ei.cells.length + j < (es.length + ds.length) * ei.cells.length := by
        have : (i + 1) * ei.cells.length ≤ (es.length + ds.length) * ei.cells.length := Nat.mul_le_mul_right _ hi'
        rw [Nat.add_mul] at this; omega
      rw [hfl] at h3
      rw [← Array.getElem?_toList, Array.toList_append, Array.toList_append, hold]
      rw [List.getElem?_append_left (by rw [List.length_append, flat_length, flat_length, ← Nat.add_mul]; exact hlt), h3]
      exact hu
  have hlim2 : (es.length + ds.length) * ei.bytes ≤ 140737488355328 := by
    have : (es.length + ds.length) * ei.bytes ≤ lim * 2048 := Nat.mul_le_mul hlim hb
    simpa [lim] using this
  have hsmall : es.length + ds.length ≤ 68719476736 := hlim
  have hfitL : ∀ cap, cap < es.length + ds.length → ¬ (281474976710656 < Builtin.nextslicecap (es.length + ds.length) cap * inf.bytes) := by
    intro cap hc; rw [hby]; have := growslice_fits hc hlim2; omega
  have hbz : inf.bytes ≠ 0 := by omega
  have hcapok : ∀ old, es.length + ds.length ≤ grownCap w (es.length + ds.length) old e ∧ grownCap w (es.length + ds.length) old e ≤ maxLen := fun old => ⟨grownCap_ge w _ old e, grownCap_le_maxLen w _ old e (by omega)⟩
  have hgr : ∀ (o : Go.Obj) (row : Option Nat), w.grownBy (w.drew.alloc o) row := fun o row => ⟨rfl, rfl, rfl, by simp, fun k hk _ => heap_alloc_old w.drew _ k hk⟩
  have hc0 := hsrc.cells w rfl
  have hcd := hsrc.cells w.drew rfl
  rw [← hsz] at hc0 hcd
  rcases harr with ⟨rfl, rfl⟩ | ⟨b, cap, cur, t0, fr, vs, rfl, hheap, hlen, hcap, hcur, hfr, hall⟩
  · -- nil
    by_cases hm : ds.length = 0
    · have hd : ds = [] := List.eq_nil_of_length_eq_zero hm
      subst hd
      exact ⟨.slice none 0 0, w, run_app_none ht hxt hinf (hsrc.len w) hc0, .inl ⟨rfl, rfl⟩, ⟨rfl, rfl, rfl, Nat.le_refl _, fun _ _ _ => rfl⟩, .inl rfl, none, 0, 0, rfl⟩
    · have hfo : (Builtin.firstCells inf.size 0 (.slice none 0 0)).run P w.drew = .ok #[] w.drew := run_firstCells_none w.drew _ _ _ _
      have hr := run_app_grow (n := 0) (cap := 0) (ty := ty) ht hxt hinf hz hbz (hsrc.len w) hcd hfo (by omega) (by have := hfitL 0 (by simp; omega); simpa using this)
      refine ⟨_, _, hr, ?_, hgr _ _, .inr rfl, _, _, _, rfl⟩
      have := hnew [] (fun _ => undef) (by simp [flat]) (fun i hi => absurd hi (by simp)) (grownCap w ds.length 0 e) (by simpa using (hcapok 0).1) (by simpa using (hcapok 0).2)
      rw [hsz]
      simpa using this
  · have hold : ∀ w', w'.heap = w.heap → (Builtin.firstCells inf.size es.length (.slice (some ⟨b, 0, none⟩) es.length cap)).run P w' = .ok (flat vs es.length ei.cells.length).toArray w' := by
      rw [hsz]
      exact (src_slice (P := P) (tt := tt) (M := M) (w := w) (ad := ⟨b, 0, none⟩) hei rfl (len := es.length) (cap := cap) (vs := vs) rfl (fun i hi => (hall i hi).1) (fun i j u hi hu => by
        simp only [World.cell?, hheap, Nat.zero_add]
        simpa using (hall i hi).2.1 j u hu) (fun i hi => (hall i hi).2.2)).cells
    by_cases hroom : es.length + ds.length ≤ cap
    · have hfit : es.length * ei.cells.length + (flat vx ds.length ei.cells.length).length ≤ cur.size := by
        rw [flat_length, hcur, ← Nat.add_mul]; exact Nat.mul_le_mul_right _ hroom
      have hst := run_storeCells_fr P b (es.length * ei.cells.length) t0 fr (flat vx ds.length ei.cells.length) 0 cur w hheap hfr (by simpa using hfit) hxone
      rw [Nat.add_zero] at hst
      have hr := run_app_room (P := P) (ty := ty) (a := ⟨b, 0, none⟩) (n := es.length) (cap := cap) ht hxt hinf (hsrc.len w) hc0 hroom (by rw [add_spot _ rfl, hsz, Nat.zero_add]; exact hst)
      refine ⟨_, _, hr, ?_, grown_setRow w b _, .inl rfl, _, _, _, rfl⟩
      refine .inr ⟨b, cap, _, t0, fr, fun i => if i < es.length then vs i else vx (i - es.length), by rw [List.length_append], setRow_heap w b cur _ t0 fr hheap, by rw [List.length_append]; exact hroom, hcap, ?_, ?_, ?_⟩
      · simp only [List.size_toArray, List.length_append, List.length_take, List.length_drop, Array.length_toList]; omega
      · simp only [List.size_toArray, List.length_append, List.length_take, List.length_drop, Array.length_toList]; omega
      · intro i hi
        have hea := each_append (fun i hi => ⟨(hall i hi).1, (hall i hi).2.2⟩) hsrc.each i hi
        refine ⟨hea.1, ?_, hea.2⟩
        intro j u hu
        have hj := (Array.getElem?_eq_some_iff.1 hu).1
        rw [hea.1] at hj
        have hi' : i < es.length + ds.length := by simpa using hi
        rw [List.getElem?_toArray, seg_get _ _ _ _ (by rw [Array.length_toList]; exact hfit), flat_length]
        by_cases hlt : i < es.length
        · have h2 : (i + 1) * ei.cells.length ≤ es.length * ei.cells.length := Nat.mul_le_mul_right _ hlt
          rw [Nat.add_mul] at h2
          rw [if_neg (by omega), Array.getElem?_toList]
          simp only [hlt, if_true] at hu
          exact (hall i hlt).2.1 j u hu
        · simp only [hlt, if_false] at hu
          have hz2 := (hsrc.each (i - es.length) (by omega)).1
          have h2 : es.length * ei.cells.length ≤ i * ei.cells.length := Nat.mul_le_mul_right _ (Nat.le_of_not_lt hlt)
          have h3 : (i + 1) * ei.cells.length ≤ (es.length + ds.length) * ei.cells.length := Nat.mul_le_mul_right _ hi'
          rw [Nat.add_mul, Nat.add_mul] at h3
          rw [if_pos ⟨by omega, by omega⟩, show i * ei.cells.length + j - es.length * ei.cells.length = (i - es.length) * ei.cells.length + j by rw [Nat.sub_mul]; omega, flat_get (by omega) hj hz2]
          exact hu
    · have hr := run_app_grow (ty := ty) ht hxt hinf hz hbz (hsrc.len w) hcd (hold w.drew rfl) hroom (hfitL cap (by omega))
      refine ⟨_, _, hr, ?_, hgr _ _, .inr rfl, _, _, _, rfl⟩
      have := hnew (flat vs es.length ei.cells.length) vs rfl (fun i hi => ⟨(hall i hi).1, (hall i hi).2.2⟩) (grownCap w (es.length + ds.length) cap e) (hcapok cap).1 (hcapok cap).2
      rw [hsz] at *
      exact this

end
end Go.Proofs.YtcmeincdmphaoaaDoor.DS

namespace Go.Proofs.YtcmeincdmphaoaaDoor.DS
open Go.RowKit

section
variable {P : Program} {E : Env} (hT : TTok P E.tt) {draw : Bool} {st : St} {ops : List Oper} {L : List (Nat × Bool)} {a : Act} {w w0 : World} {X : Nat → Prop} {Mx : Mem} {ι : Nat → Value} {M : Mem}
  (hev : ∀ x s, ev st ops L x = some s → SVRel E.tt ι M s (a.eval x))
  (H : HRel E.tt X w0 Mx ι M st.objs w) (hwf : WF st)

include hT hev in
theorem elems_fill {e : TypeId} {ei : TI} (hei : lk e E.tt = some ei) (parts : List (Nat × Operand)) : ∀ (n : Nat) (cells : Array Value) (ds : List D), elemsD st ops L ei.kt n parts = some ds → (n + parts.length) * ei.cells.length ≤ cells.size →
    ds.length = parts.length ∧ ∃ cells', ∃ vs : Nat → Value, Instr.fill (fun i => some (i * ei.cells.length, ei.cells.length)) cells (parts.map fun (i, x) => (i, a.eval x)) = some cells' ∧ cells'.size = cells.size ∧ (∀ k, k < n * ei.cells.length → cells'[k]? = cells[k]?) ∧
      ∀ i (h : i < ds.length), (vs i).cells.size = ei.cells.length ∧ (∀ j u, (vs i).cells[j]? = some u → cells'[(n + i) * ei.cells.length + j]? = some u) ∧ Rep E.tt M ei.kt (vs i) ds[i] := by
  induction parts with
  | nil => intro n cells ds h _; injection h with h; subst h; exact ⟨rfl, cells, fun _ => undef, rfl, rfl, fun _ _ => rfl, fun i h => absurd h (by simp)⟩
  | cons p r ih =>
    obtain ⟨i0, x⟩ := p
    intro n cells ds h hsz
    simp only [elemsD] at h
    replace h := cond_some.1 h
    obtain ⟨hn, h⟩ := h
    have hn := beq_iff.1 hn
    subst hn
    replace h := opt_some.1 h
    obtain ⟨s, hs, h⟩ := h
    replace h := opt_some.1 h
    obtain ⟨d, hd, h⟩ := h
    replace h := opt_some.1 h
    obtain ⟨ds', hds', h⟩ := h
    injection h with h; subst h
    have hrep := svD_rel hd (hev x s hs)
    obtain ⟨k1, k2, k3⟩ := hrep.kt_cells hT hei
    simp only [List.length_cons] at hsz
    have hle : (i0 + 1) * ei.cells.length ≤ cells.size := Nat.le_trans (Nat.mul_le_mul_right _ (by omega)) hsz
    have hle' := hle
    rw [Nat.add_mul, Nat.one_mul] at hle'
    obtain ⟨q1, cells', vs, q2, q3, q4, q5⟩ := ih (i0 + 1) ((a.eval x).cells.zipIdx.foldl (fun cs (c, j) => cs.setIfInBounds (i0 * ei.cells.length + j) c) cells) ds' hds' (by
      rw [← Array.foldl_toList, Array.toList_zipIdx, foldl_set_size]; rw [show i0 + 1 + r.length = i0 + (r.length + 1) by omega]; exact hsz)
    refine ⟨by simp [q1], cells', fun i => match i with | 0 => a.eval x | i + 1 => vs i, ?_, ?_, ?_, ?_⟩
    · simp only [List.map_cons, Instr.fill]
      rw [if_neg (by simp; omega)]
      exact q2
    · rw [q3, ← Array.foldl_toList, Array.toList_zipIdx, foldl_set_size]
    · intro k hk
      rw [q4 k (by rw [Nat.add_mul]; omega), ← Array.foldl_toList, Array.toList_zipIdx, foldl_set_get, if_neg (by omega)]
    · intro i hi
      cases i with
      | zero =>
        refine ⟨k1, ?_, hrep⟩
        intro j u hu
        have hj : j < (a.eval x).cells.size := (Array.getElem?_eq_some_iff.1 hu).1
        rw [Nat.add_zero, q4 _ (by rw [Nat.add_mul]; omega), ← Array.foldl_toList, Array.toList_zipIdx, foldl_set_get, if_pos ⟨by omega, by rw [Array.length_toList]; omega, by omega⟩, Nat.add_zero, Nat.add_sub_cancel_left, Array.getElem?_toList]
        exact hu
      | succ i =>
        obtain ⟨z1, z2, z3⟩ := q5 i (by simpa using hi)
        refine ⟨z1, ?_, by simpa using z3⟩
        intro j u hu
        have := z2 j u hu
        rw [show i0 + (i + 1) = i0 + 1 + i by omega]; exact this

include hT hev H hwf in
theorem buildSlice_sound {o : Oper} {t : TypeId} {n : Nat} {ps : Array (Nat × Operand)} (ho : o.op = .buildSlice t n ps) {c : Bool} {id : Nat} {ob : Obj} {scr : Bool} {v : SV} (h : buildSliceO E st ops L o.dst t n ps.toList = some (.ob c id ob scr v)) : Does P E.tt X w0 Mx ι M a w o st (obSt st id ob scr) v := by
  unfold buildSliceO at h
  replace h := opt_some.1 h
  obtain ⟨ti, ht, h⟩ := h
  have hu := (hT t ti ht).under
  split at h
  · rename_i e hk
    rw [hk] at hu
    replace h := opt_some.1 h
    obtain ⟨ei, hei, h⟩ := h
    replace h := opt_some.1 h
    obtain ⟨ds, hds, h⟩ := h
    replace h := cond_some.1 h
    obtain ⟨hb, h⟩ := h
    simp only [Bool.and_eq_true] at hb
    have hlen := beq_iff.1 hb.1
    have hmax := Nat.le_of_ble_eq_true hb.2.1
    have hpos : 0 < ei.cells.length := Nat.le_of_ble_eq_true hb.2.2
    obtain ⟨hd, hf, rfl, rfl, rfl, rfl⟩ := withObj_st h
    obtain ⟨inf, hinf, hsz, _⟩ := (hT e ei hei).info
    obtain ⟨inf', z, hinf', hz, hzs, _⟩ := (hT e ei hei).zero
    rw [hinf] at hinf'; cases hinf'
    let cells0 : Array Value := (Array.range (n * inf.size)).map ((if n * inf.size = 0 then #[] else z.cells)[· % (if n * inf.size = 0 then #[] else z.cells).size]!)
    have hc0 : cells0.size = n * ei.cells.length := by simp [cells0, hsz]
    have hpl : ds.length = ps.toList.length ∧ _ := elems_fill (M := M) hT hev hei ps.toList 0 cells0 ds hds (by
      have : ds.length = ps.toList.length := by
        have key : ∀ (l : List (Nat × Operand)) (m : Nat) (ds : List D), elemsD st ops L ei.kt m l = some ds → ds.length = l.length := by
          intro l
          induction l with
          | nil => intro m ds h; injection h with h; subst h; rfl
          | cons p r ih =>
            obtain ⟨i, x⟩ := p
            intro m ds h
            simp only [elemsD] at h
            replace h := cond_some.1 h
            replace h := opt_some.1 h.2
            obtain ⟨_, _, h⟩ := h
            replace h := opt_some.1 h
            obtain ⟨_, _, h⟩ := h
            replace h := opt_some.1 h
            obtain ⟨ds', h1, h⟩ := h
            injection h with h; subst h
            simp [ih _ _ h1]
        exact key _ _ _ hds
      rw [hc0, Nat.zero_add, ← this, hlen]; exact Nat.le_refl _)
    obtain ⟨hl2, cells', vs, q2, q3, q4, q5⟩ := hpl
    refine ⟨.slice (some ⟨w.heap.size, 0, none⟩) n n, w.alloc (.cells cells' e), .inl (execOp_value (s := Instr.buildSlice t n (ps.map fun (i, x) => (i, a.eval x))) (by simp [execOp, ho]) ?_), ?_⟩
    · have hle : ¬ n * inf.size > 2 ^ 24 := by rw [hsz]; omega
      have hzr : (if n * inf.size = 0 then pure #[] else do pure (← zeroValue e).cells : Sem (Array Value)).run P w = .ok (if n * inf.size = 0 then #[] else z.cells) w := by
        split
        · simp
        · simp [zeroValue, run_info hinf, hz]
      have e2 : (ps.map fun (i, x) => (i, a.eval x)).toList = ps.toList.map fun (i, x) => (i, a.eval x) := by simp
      rw [hsz] at hle hzr
      simp only [Instr.buildSlice, Sem.run_bind, run_underlying hu.1, Result.andThen_ok, run_size hinf, hsz]
      rw [if_neg hle]
      have hz2 : (zeroValue e).run P w = .ok z w := by simp [zeroValue, run_info hinf, hz]
      by_cases h0 : n * ei.cells.length = 0
      · have e3 : (Array.range (n * ei.cells.length)).map (((#[] : Array Value)[· % (#[] : Array Value).size]!)) = cells0 := by simp only [cells0, hsz, h0]; simp
        simp only [h0, if_true]
        simp only [h0] at e3
        simp only [pure_bind, e2, e3, q2]
        simp [newRow]
      · have e3 : (Array.range (n * ei.cells.length)).map ((z.cells[· % z.cells.size]!)) = cells0 := by simp only [cells0, hsz, if_neg h0]
        simp only [h0, if_false]
        simp only [Sem.run_bind, hz2, Result.andThen_ok, pure_bind, e2, e3, q2]
        simp [newRow]
    · refine new_step (row := none) H hwf hf (grown_alloc w _) (x := .slice (some ⟨w.heap.size, 0, none⟩) n n) (fun b hb => ?_) ?_ (fun i hi => by simp [objRefs0] at hi) ?_ (fun i hi => ?_)
      · simp only [blockOf, Option.some.injEq] at hb; omega
      · refine ⟨ei, hei, hpos, .inr ⟨w.heap.size, n, cells', ⟨e, rfl⟩, (0, 0), vs, by rw [put_same, hlen], heap_alloc_new w _, by omega, ?_, by rw [q3, hc0], .inr (Nat.le_refl _), ?_⟩⟩
        · have : n * 1 ≤ n * ei.cells.length := Nat.mul_le_mul_left _ hpos
          unfold maxLen; omega
        · intro i hi
          obtain ⟨z1, z2, z3⟩ := q5 i hi
          exact ⟨z1, fun j u hu => by have := z2 j u hu; rwa [Nat.zero_add] at this, z3⟩
      · exact ⟨by rw [put_same], _, _, _, put_same _ _ _⟩
      · simpa [refsOf, refs0] using hi
  · cases h

include hT hev H hwf in
theorem makeSlice_sound {o : Oper} {t : TypeId} {x y : Operand} (ho : o.op = .makeSlice t x y) {c : Bool} {id : Nat} {ob : Obj} {scr : Bool} {v : SV} (h : makeSliceO E st ops L o.dst t x y = some (.ob c id ob scr v)) (hc : c = true) : Does P E.tt X w0 Mx ι M a w o st (obSt st id ob scr) v := by
  unfold makeSliceO at h
  replace h := opt_some.1 h
  obtain ⟨ti, ht, h⟩ := h
  replace h := opt_some.1 h
  obtain ⟨n, hn, h⟩ := h
  replace h := opt_some.1 h
  obtain ⟨m, hm, h⟩ := h
  have hu := (hT t ti ht).under
  obtain ⟨kn, hvn⟩ := evInt_sound hev hn
  obtain ⟨km, hvm⟩ := evInt_sound hev hm
  split at h
  · rename_i e hk
    rw [hk] at hu
    replace h := opt_some.1 h
    obtain ⟨ei, hei, h⟩ := h
    split at h
    · cases h
    · cases h
    · cases h
    · rename_i hks hkp hkm
      replace h := cond_some.1 h
      obtain ⟨hb, h⟩ := h
      have hb := Nat.le_of_ble_eq_true hb
      obtain ⟨hd, hf, hcc, rfl, rfl, rfl⟩ := withObj_st h
      rw [hcc] at hc
      simp only [Bool.and_eq_true, decide_eq_true_eq] at hc
      obtain ⟨h0, h1, h2⟩ := hc
      have hks' : ei.kt.single = true := by cases hkk : ei.kt <;> first | rfl | exact absurd hkk (hks _)
      have hc1 := (hT e ei hei).cells_of_single hks'
      have hl1 : ei.cells.length = 1 := by rw [hc1]; rfl
      obtain ⟨inf, hinf, hsz, hby⟩ := (hT e ei hei).info
      obtain ⟨inf', z, hinf', hz, hcr⟩ := zero_rep (M := M) hT hei (fun k hk => by rw [hc1] at hk; simp at hk; subst hk; exact ⟨hkp, hkm⟩)
      rw [hinf] at hinf'; cases hinf'
      obtain ⟨g1, g2, g3⟩ := hcr
      have hzr : Rep E.tt M ei.kt z (zeroD ei.kt) ∧ z.cells = #[z] := by
        obtain ⟨_, z', hz1, hz2, _, _, hz5, _⟩ := (hT e ei hei).zero
        rw [hinf] at hz1; cases hz1
        rw [hz] at hz2; cases hz2
        have := hz5 hks'
        exact ⟨g3 0 ei.kt z (zeroD ei.kt) (by rw [hc1]; rfl) (by rw [this]; rfl) (by rw [hc1]; rfl), this⟩
      have hlim : (lim : Int) = 68719476736 := rfl
      have hwrap : ∀ q : Int, 0 ≤ q → q ≤ 68719476736 → IntKind.i64.wrap q = q := by
        intro q h1 h2
        unfold IntKind.wrap
        have e1 : (2 : Int) ^ IntKind.i64.bits = 18446744073709551616 := by decide
        have e2 : (2 : Int) ^ (IntKind.i64.bits - 1) = 9223372036854775808 := by decide
        simp only [e1, e2]
        rw [Int.emod_eq_of_lt h1 (by omega)]
        rw [if_neg]
        simp; omega
      have wn := hwrap n h0 (by omega)
      have wm := hwrap m (by omega) (by omega)
      have hbz : ¬ ((inf.bytes : Int) * m > 2 ^ 48) := by
        have : (inf.bytes : Int) * m ≤ 2048 * 68719476736 := Int.mul_le_mul (by rw [hby]; omega) (by omega) (by omega) (by omega)
        have e1 : (2 : Int) ^ 48 = 281474976710656 := by decide
        omega
      have hcellsE : (Array.range (m.toNat * inf.size)).map ((if m.toNat * inf.size = 0 then #[] else z.cells)[· % (if m.toNat * inf.size = 0 then #[] else z.cells).size]!) = Array.replicate m.toNat z := by
        apply Array.ext
        · simp [hsz, hl1]
        · intro i h1 h2
          have h3 : i < m.toNat := by simpa using h2
          have h4 : ¬ m.toNat * inf.size = 0 := by rw [hsz, hl1]; omega
          simp only [Array.getElem_map, Array.getElem_range, Array.getElem_replicate, if_neg h4, hzr.2]
          simp [Nat.mod_one]
      refine ⟨.slice (some ⟨w.heap.size, 0, none⟩) n.toNat m.toNat, w.alloc (.cells (Array.replicate m.toNat z) e), .inl (execOp_value (s := Instr.makeSlice t (a.eval x) (a.eval y)) (by simp [execOp, ho]) ?_), ?_⟩
      · have hzr2 : (if m.toNat * inf.size = 0 then pure #[] else do pure (← zeroValue e).cells : Sem (Array Value)).run P w = .ok (if m.toNat * inf.size = 0 then #[] else z.cells) w := by
          split
          · simp
          · simp [zeroValue, run_info hinf, hz]
        have t1 : (decide (m < 0) || decide ((inf.bytes : Int) * m > 2 ^ 48)) = false := by
          rw [decide_eq_false (show ¬ m < 0 by omega), decide_eq_false hbz]; rfl
        have t2 : ¬ (((decide (m < 0) || decide ((inf.bytes : Int) * m > 2 ^ 48)) || decide (n < 0) || decide (n > m)) = true) := by
          rw [t1, decide_eq_false (show ¬ n < 0 by omega), decide_eq_false (show ¬ n > m by omega)]; decide
        rw [hvn, hvm]
        simp only [Instr.makeSlice, Sem.run_bind, run_underlying hu.1, Result.andThen_ok, asInt, asIntOf, Sem.run_pure, run_info hinf, wn, wm]
        rw [if_neg t2]
        have hz2 : (zeroValue e).run P w = .ok z w := by simp [zeroValue, run_info hinf, hz]
        simp only [Sem.run_pure, Result.andThen_ok, Sem.run_bind, run_askRoom, run_size hinf]
        by_cases h0 : m.toNat * inf.size = 0
        · have hm0 : m.toNat = 0 := by rw [hsz, hl1] at h0; omega
          simp [h0, newRow, hm0]
          congr 2
          apply Array.ext <;> simp
        · rw [if_neg h0]
          rw [if_neg h0] at hcellsE
          simp only [Sem.run_bind, hz2, Result.andThen_ok, pure_bind, hcellsE]
          simp [newRow]
      · refine new_step (row := none) H hwf hf (grown_alloc w _) (x := .slice (some ⟨w.heap.size, 0, none⟩) n.toNat m.toNat) (fun b hb => ?_) ?_ (fun i hi => by simp [objRefs0] at hi) ?_ (fun i hi => ?_)
        · simp only [blockOf, Option.some.injEq] at hb; omega
        · refine ⟨ei, hei, by omega, .inr ⟨w.heap.size, m.toNat, _, ⟨e, rfl⟩, (0, 0), fun _ => z, by rw [put_same, List.length_replicate], heap_alloc_new w _, by rw [List.length_replicate]; omega, by unfold maxLen; omega, by simp [hl1], .inr (Nat.le_refl _), ?_⟩⟩
          intro i hi
          rw [List.length_replicate] at hi
          refine ⟨by rw [hzr.2, hl1]; rfl, ?_, ?_⟩
          · intro j u hu
            rw [hzr.2] at hu
            cases j with
            | zero =>
              simp at hu; subst hu
              rw [hl1, Nat.mul_one, Nat.add_zero, Array.getElem?_replicate, if_pos (by omega)]
            | succ j => simp at hu
          · rw [List.getElem_replicate]; exact hzr.1
        · exact ⟨by rw [put_same], _, _, _, put_same _ _ _⟩
        · simpa [refsOf, refs0] using hi
  · cases h

end
end Go.Proofs.YtcmeincdmphaoaaDoor.DS

namespace Go.Proofs.YtcmeincdmphaoaaDoor.DS
open Go.RowKit Go.MapKept Go.ChangeMaps

section
variable {P : Program} {E : Env} (hT : TTok P E.tt) {draw : Bool} {st : St} {ops : List Oper} {L : List (Nat × Bool)} {a : Act} {w w0 : World} {X : Nat → Prop} {Mx : Mem} {ι : Nat → Value} {M : Mem}
  (hev : ∀ x s, ev st ops L x = some s → SVRel E.tt ι M s (a.eval x))
  (H : HRel E.tt X w0 Mx ι M st.objs w) (hwf : WF st)

include hT H hwf in
theorem makeMap_sound {o : Oper} {t : TypeId} (ho : o.op = .makeMap t none) {c : Bool} {id : Nat} {ob : Obj} {scr : Bool} {v : SV} (h : makeMapO E st o.dst t = some (.ob c id ob scr v)) : Does P E.tt X w0 Mx ι M a w o st (obSt st id ob scr) v := by
  unfold makeMapO at h
  obtain ⟨ti, ht, h⟩ := opt_some.1 h
  split at h
  · rename_i o1 k o2 e hkt hf
    obtain ⟨ki, hki, h⟩ := opt_some.1 h
    obtain ⟨ei, hei, h⟩ := opt_some.1 h
    obtain ⟨hc, h⟩ := cond_some.1 h
    simp only [Bool.and_eq_true] at hc
    obtain ⟨hd, hfr, rfl, rfl, rfl, rfl⟩ := withObj_st h
    have hun := (hT t ti ht).under
    rw [hkt] at hun
    obtain ⟨⟨k2, e2, hu, hf2⟩, _⟩ := hun
    rw [hf] at hf2; injection hf2 with q1 q2; injection q1 with q3 q4; injection q2 with q5 q6; injection q5 with q7 q8
    subst q3 q4 q7 q8
    refine ⟨.map (some w.heap.size), w.alloc (.map #[] 0), .inl (execOp_value (s := Instr.makeMap t none) (by simp [execOp, ho]) (run_makeMap t w)), ?_⟩
    refine new_step (row := none) H hwf hfr (grown_alloc w _) (x := .map (some w.heap.size)) (fun b hb => ?_) ?_ (fun i hi => by simp [objRefs0] at hi) ?_ (fun i hi => ?_)
    · simp only [blockOf, Option.some.injEq] at hb; omega
    · exact ⟨ti, k, e, ki, ei, w.heap.size, #[], 0, ht, hkt, hf, hki, hei, hc.1, hc.2, put_same _ _ _, heap_alloc_new w _, trivial⟩
    · exact ⟨w.heap.size, put_same _ _ _, rfl⟩
    · simpa [refsOf, refs0] using hi
  · cases h
include H hwf in
/-- An object's content replaced, in its own block, of whatever kind. -/
theorem set_step {id : Nat} {ob ob' : Obj} (hob : st.objs id = some ob) {w' : World} (hg : w.grownBy w' (blockOf (ι id))) (hnew : ObjRel E.tt ι M w' id ob')
    (hrefs : ∀ i, i ∈ objRefs0 ob' → ∃ o, st.objs i = some o) : Steps1 E.tt X w0 Mx ι M st { st with objs := put st.objs id (some ob') } w' .gone undef := by
  have hin : ∀ i o, st.objs i = some o → ∃ o, put st.objs id (some ob') i = some o := by
    intro i o ho
    by_cases hi : i = id
    · subst hi; exact ⟨ob', put_same _ _ _⟩
    · exact ⟨o, by rw [put_other _ _ _ hi]; exact ho⟩
  refine ⟨ι, ?_, fun t s1 hs1 => ⟨s1, hs1, fun v0 h => h⟩, trivial, rfl, ⟨?_, ?_⟩, fun i hi => by cases hi⟩
  · have := H.change hg (id := id) (x := ι id) (fun b' hb' => ⟨⟨ob, hob⟩, hb'⟩) (fun b' hb' => .inl ⟨⟨ob, hob⟩, hb'⟩) (objs' := put st.objs id (some ob')) ?_ ?_
    · rwa [put_self] at this
    · intro i o' hi ho'
      rw [put_other _ _ _ hi] at ho'
      exact ⟨o', ho', fun hr hh => by rw [put_self]; exact hr.same hh⟩
    · intro o' ho'
      rw [put_same] at ho'
      injection ho' with ho'; subst ho'
      rw [put_self]; exact hnew
  · intro t s1 hs1 i hi
    obtain ⟨o, ho⟩ := hwf.slots t s1 hs1 i hi
    exact hin i o ho
  · intro j o hj i hi
    by_cases hji : j = id
    · subst hji
      simp only [put_same, Option.some.injEq] at hj
      subst hj
      obtain ⟨o2, ho2⟩ := hrefs i hi
      exact hin i o2 ho2
    · simp only [put_other _ _ _ hji] at hj
      obtain ⟨o2, ho2⟩ := hwf.cells j o hj i hi
      exact hin i o2 ho2
theorem run_keyStays {w : World} {d : TypeDesc} {k : Value} (hk : IsKey d k) : (Instr.keyThatStays k k).run P w = .ok k w := by
  have : Instr.sameBits 10000 k k = true := by
    cases d <;> cases k <;> simp_all [IsKey, Instr.sameBits, bytes_beq]
  simp [Instr.keyThatStays, this]
include hT hev H hwf in
theorem mapUpdate_sound {o : Oper} {t : TypeId} {m x y : Operand} (ho : o.op = .mapUpdate t m x y ∨ o.op = .insert t m x y) {c : Bool} {id : Nat} {ob : Obj} {scr : Bool} {v : SV} (h : mapUpdateO E st ops L t m x y = some (.ob c id ob scr v)) : Does P E.tt X w0 Mx ι M a w o st (obSt st id ob scr) v := by
  unfold mapUpdateO at h
  obtain ⟨ti, ht, h⟩ := opt_some.1 h
  split at h
  · rename_i o1 k o2 e hf
    obtain ⟨ki, hki, h⟩ := opt_some.1 h
    obtain ⟨ei, hei, h⟩ := opt_some.1 h
    obtain ⟨sm, hsm, h⟩ := opt_some.1 h
    obtain ⟨sx, hsx, h⟩ := opt_some.1 h
    obtain ⟨d, hd, h⟩ := opt_some.1 h
    obtain ⟨sy, hsy, h⟩ := opt_some.1 h
    obtain ⟨dv, hdv, h⟩ := opt_some.1 h
    cases sm with
    | mp id0 =>
      cases hob : st.objs id0 with
      | none => simp only [hob] at h; cases h
      | some ob0 =>
      simp only [hob] at h
      cases ob0 with
      | arr _ _ => cases h
      | box _ _ => cases h
      | map t' kvs =>
        obtain ⟨htt, h5⟩ := cond_some.1 h
        clear h
        have htt := beq_iff.1 htt
        subst htt
        simp only [Option.some.injEq, Out.ob.injEq] at h5
        obtain ⟨_, rfl, rfl, rfl, rfl⟩ := h5
        obtain ⟨b, es, clock, dk, hu, hem, hι, hh, hp, hn, hkt, hf0, hdk, hkey, hrx, hmr⟩ := map_at hT hev H.obj ht hf hki hei hsm hsx hd hob
        have hry : Rep E.tt M ei.kt (a.eval y) dv := svD_rel hdv (hev y _ hsy)
        have hck := run_checkKey (w := w) hdk (hkey _ _ hrx) false 9999
        have fin : ∀ (es' : Array MapEntry) (clock' : Nat), (Instr.mapUpdate t (a.eval m) (a.eval x) (a.eval y)).run P w = .ok () (setBlock w b (.map es' clock')) → MapRel E.tt M ki ei es'.toList (putKV ki.kt d dv kvs) →
            Does P E.tt X w0 Mx ι M a w o st (obSt st id0 (.map t (putKV ki.kt d dv kvs)) false) .gone := by
          intro es' clock' hrun hm'
          refine ⟨undef, setBlock w b (.map es' clock'), .inr ⟨?_, rfl⟩, set_step (w' := setBlock w b (.map es' clock')) H hwf hob ⟨rfl, rfl, rfl, by simp [setBlock], fun i _ hi => heap_setBlock_other hh _ (fun e => hi (by rw [hι, e]; rfl))⟩
            (ob' := .map t (putKV ki.kt d dv kvs)) ⟨ti, k, e, ki, ei, b, es', clock', ht, hkt, hf0, hki, hei, hp, hn, hι, heap_setBlock_same hh _, hm'⟩ (fun i hi => by simp [objRefs0] at hi)⟩
          rcases ho with ho | ho <;> simp [execOp, ho, hrun]
        rcases find_spec hp hkey hrx es.toList kvs 0 hmr with ⟨g1, g2, g3⟩ | ⟨j, e0, v0, g1, g2, g3, g4, g5, g6⟩
        · have hfk := run_findKey (w := w) hdk g1
          refine fin (es.push { key := a.eval x, val := a.eval y, born := clock }) (clock + 1) ?_ ?_
          · rw [hem]
            simp [Instr.mapUpdate, run_underlying hu, MapKept.run_getObj_map hh, hck, hfk, MapKept.run_setObj_map _ hh, Result.andThen, setBlock]
          · rw [Array.toList_push]
            exact g3 (a.eval y) dv _ hry rfl rfl
        · have hfk := run_findKey (w := w) hdk g1
          rw [Nat.zero_add] at hfk
          have hj : es[j]? = some e0 := by rw [← Array.getElem?_toList]; exact g2
          have hks := run_keyStays (P := P) (w := w) (hkey _ _ hrx)
          refine fin (es.modify j fun e => { e with key := a.eval x, val := a.eval y }) clock ?_ ?_
          · rw [hem]
            simp [Instr.mapUpdate, run_underlying hu, MapKept.run_getObj_map hh, hck, hfk, hj, g3, hks, MapKept.run_setObj_map _ hh, Result.andThen, setBlock]
          · rw [Array.toList_modify]
            exact g6 (a.eval y) dv _ hry (fun _ => rfl) rfl
    | _ => cases h
  · cases h
end
end Go.Proofs.YtcmeincdmphaoaaDoor.DS
