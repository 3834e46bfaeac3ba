/- Operations that make or write memory. -/
import Derived.Test.YthempoaickahcaaDsK
import Derived.Deep.Draws
set_option linter.unusedVariables false
set_option linter.unusedSimpArgs false
namespace Go.Proofs.Ythempoaickahcaa.DS
open Go.RowKit

/-- Every row and box that is named is there. -/
structure WF (st : St) : Prop where
  slots : ∀ t s, st.slots t = some s → ∀ i, i ∈ refsOf s → ∃ o, st.objs i = some o
  cells : ∀ j o, st.objs j = some o → ∀ i, i ∈ objRefs0 o → ∃ o', st.objs i = some o'

/-- A step of the state. -/
def Steps1 (tt : TT) (X : Nat → Prop) (w0 : World) (Mx : Mem) (ι : Nat → Value) (M : Mem) (st s : St) (w' : World) (v : SV) (u : Value) : Prop :=
  ∃ ι', HRel tt X w0 Mx ι' M s.objs w' ∧ (∀ t s1, s.slots t = some s1 → ∃ s0, st.slots t = some s0 ∧ ∀ v0, SVRel tt ι M s0 v0 → SVRel tt ι' M s1 v0) ∧ SVRel tt ι' M v u ∧ s.n = st.n ∧ WF s ∧
    ∀ i, i ∈ refsOf v → ∃ o, s.objs i = some o

section
variable {P : Program} {E : Env} (hT : TTok P E.tt) {draw : Bool} {st : St} {ops : List Oper} {L : List (Nat × Bool)} {a : Act} {w w0 : World} {X : Nat → Prop} {Mx : Mem} {ι : Nat → Value} {M : Mem}
  (hev : ∀ x s, ev st ops L x = some s → SVRel E.tt ι M s (a.eval x))
  (H : HRel E.tt X w0 Mx ι M st.objs w) (hwf : WF st)

include H hwf in
/-- A new object. -/
theorem new_step {id : Nat} (hf : st.objs id = none) {w' : World} {row : Option Nat} (hg : w.grownBy w' none) {x u : Value} (hx : ∀ b, blockOf x = some b → w.heap.size ≤ b) {ob : Obj} {v : SV}
    (hob : ObjRel E.tt (put ι id x) M w' id ob) (hor : ∀ i, i ∈ objRefs0 ob → ∃ o, st.objs i = some o) (hv : SVRel E.tt (put ι id x) M v u) (hvr : ∀ i, i ∈ refsOf v → i = id) :
    Steps1 E.tt X w0 Mx ι M st { st with objs := put st.objs id (some ob) } w' v u := by
  have hne : ∀ i o, st.objs i = some o → i ≠ id := fun i o ho e => by subst e; rw [hf] at ho; cases ho
  have hin : ∀ i o, st.objs i = some o → ∃ o, put st.objs id (some ob) i = some o := fun i o ho => ⟨o, by rw [put_other _ _ _ (hne i o ho)]; exact ho⟩
  refine ⟨put ι id x, ?_, ?_, hv, rfl, ⟨?_, ?_⟩, ?_⟩
  · refine H.change hg (row := none) (fun b hb => by cases hb) (fun b hb => .inr (hx b hb)) ?_ ?_
    · intro i o' hi ho'
      simp only [put_other _ _ _ hi] at ho'
      refine ⟨o', ho', fun hr hh => hr.keep hi (fun hin' => ?_) hh⟩
      obtain ⟨o2, ho2⟩ := hwf.cells i o' ho' id hin'
      rw [hf] at ho2; cases ho2
    · intro o' ho'
      simp only [put_same, Option.some.injEq] at ho'
      subst ho'; exact hob
  · intro t s1 hs1
    refine ⟨s1, hs1, fun v0 hv0 => hv0.updι (fun hin' => ?_)⟩
    obtain ⟨o2, ho2⟩ := hwf.slots t s1 hs1 id hin'
    rw [hf] at ho2; cases ho2
  · intro t s1 hs1 i hi
    obtain ⟨o, ho⟩ := hwf.slots t s1 hs1 i hi
    exact hin i o ho
  · intro j o hj i hi
    by_cases hji : j = id
    · subst hji
      simp only [put_same, Option.some.injEq] at hj
      subst hj
      obtain ⟨o2, ho2⟩ := hor i hi
      exact hin i o2 ho2
    · simp only [put_other _ _ _ hji] at hj
      obtain ⟨o2, ho2⟩ := hwf.cells j o hj i hi
      exact hin i o2 ho2
  · intro i hi
    rw [hvr i hi]
    exact ⟨ob, put_same _ _ _⟩

theorem grown_alloc (w : World) (o : Go.Obj) : w.grownBy (w.alloc o) none := World.grownBy_alloc w o none

theorem withObj_st {dst : Option Nat} {ob ob' : Obj} {vv : Nat → SV} {c0 c scr : Bool} {id : Nat} {v : SV} (h : withObj st dst ob vv c0 = some (.ob c id ob' scr v)) :
    dst = some id ∧ st.objs id = none ∧ c = c0 ∧ ob' = ob ∧ scr = false ∧ v = vv id := by
  unfold withObj at h
  split at h
  · replace h := cond_some.1 h
    obtain ⟨hf, h⟩ := h
    injection h with h; injection h with h1 h2 h3 h4 h5; subst h1 h2 h3 h4 h5
    refine ⟨rfl, ?_, rfl, rfl, rfl, rfl⟩
    unfold fresh at hf
    split at hf
    · cases hf
    · assumption
  · cases h

/-- What an operation that changes the state does. -/
def Does (P : Program) (tt : TT) (X : Nat → Prop) (w0 : World) (Mx : Mem) (ι : Nat → Value) (M : Mem) (a : Act) (w : World) (o : Oper) (st s : St) (v : SV) : Prop :=
  ∃ u w', ((execOp a.eval o).run P w = .ok (.value u) w' ∨ ((execOp a.eval o).run P w = .ok .skip w' ∧ u = undef)) ∧ Steps1 tt X w0 Mx ι M st s w' v u

theorem zeros_rel {t : TypeId} {ti : TI} {z : Value} (hcr : CR E.tt M ti.cells z.cells (ti.cells.map zeroD)) (hi : TIok P E.tt t ti) (hz : ∀ (j : Nat) (k : KT), ti.cells[j]? = some k → z.cells[j]? = some (zeroV k)) (ι : Nat → Value) :
    BCRel E.tt ι M ti z.cells (.cells (ti.cells.map zeroSV)) := by
  obtain ⟨h1, h2, h3⟩ := hcr
  refine ⟨h1, by simp, ?_⟩
  intro i s c hs hc
  rw [List.getElem?_map, Option.map_eq_some_iff] at hs
  obtain ⟨k, hk, rfl⟩ := hs
  have hd : (ti.cells.map zeroD)[i]? = some (zeroD k) := by rw [List.getElem?_map, hk]; rfl
  have hr := h3 i k c _ hk hc hd
  have hsing := hi.single k (List.mem_of_getElem? hk)
  cases k with
  | slice e =>
    have := hz i _ hk
    rw [hc] at this
    injection this
  | agg u => simp [KT.single] at hsing
  | _ => exact hr

include hT H hwf in
theorem alloc_sound {o : Oper} {t : TypeId} (ho : o.op = .alloc t) {c : Bool} {id : Nat} {ob : Obj} {scr : Bool} {v : SV} (h : allocO E st o.dst t = some (.ob c id ob scr v)) : Does P E.tt X w0 Mx ι M a w o st (obSt st id ob scr) v := by
  unfold allocO at h
  replace h := opt_some.1 h
  obtain ⟨ti, ht, h⟩ := h
  obtain ⟨hd, hf, rfl, rfl, rfl, rfl⟩ := withObj_st h
  have hi := hT t ti ht
  obtain ⟨inf, z, h1, h2, h3, h4, h5, h6⟩ := hi.zero
  obtain ⟨inf', z', h1', h2', hcr⟩ := zero_rep (M := M) hT ht
  rw [h1] at h1'; cases h1'
  rw [h2] at h2'; cases h2'
  refine ⟨.pointer (some ⟨w.heap.size, 0, none⟩), w.alloc (.cells z.cells t), .inl (execOp_value (s := Instr.alloc t true (.tuple #[])) (by simp [execOp, ho]) ?_), ?_⟩
  · simp [Instr.alloc, zeroValue, run_info h1, h2, newVar, newRow]
  · refine new_step (row := none) H hwf hf (grown_alloc w _) (x := .pointer (some ⟨w.heap.size, 0, none⟩)) (fun b hb => ?_) ?_ (fun i hi => ?_) ?_ (fun i hi => ?_)
    · simp only [blockOf, Option.some.injEq] at hb; omega
    · refine ⟨ti, w.heap.size, z.cells, ht, by rw [put_same], heap_alloc_new w _, zeros_rel hcr hi h6 _⟩
    · obtain ⟨s, hs, hi⟩ := mem_refsL.1 hi
      rw [List.mem_map] at hs
      obtain ⟨k, hk, rfl⟩ := hs
      cases k <;> simp [zeroSV, refs0] at hi
    · exact ⟨KindAt.self hT ht, w.heap.size, by rw [put_same], rfl⟩
    · simpa [refsOf, refs0] using hi

include hT hev H hwf in
theorem box_sound {o : Oper} {t : TypeId} {x : Operand} (ho : o.op = .box t x) {c : Bool} {id : Nat} {ob : Obj} {scr : Bool} {v : SV} (h : boxO E st ops L o.dst t x = some (.ob c id ob scr v)) : Does P E.tt X w0 Mx ι M a w o st (obSt st id ob scr) v := by
  unfold boxO at h
  replace h := opt_some.1 h
  obtain ⟨ti, ht, h⟩ := h
  replace h := opt_some.1 h
  obtain ⟨s1, hs1, h⟩ := h
  have hi := hT t ti ht
  have hgen : ∀ d, svD ti.kt s1 = some d → ∀ bc, BCRel E.tt (put ι (o.dst.getD 0) (.pointer (some ⟨w.heap.size, 0, none⟩))) M ti (a.eval x).cells bc → objRefs0 (.box t bc) = [] → ∀ {c : Bool} {id : Nat} {ob : Obj} {scr : Bool} {v : SV},
      withObj st o.dst (.box t bc) (fun id => .bptr id t 0 ti.kt) true = some (.ob c id ob scr v) → Does P E.tt X w0 Mx ι M a w o st (obSt st id ob scr) v := by
    intro d hd bc hbc hr0 c id ob scr v h
    obtain ⟨hdst, hf, rfl, rfl, rfl, rfl⟩ := withObj_st h
    rw [hdst] at hbc
    refine ⟨.pointer (some ⟨w.heap.size, 0, none⟩), w.alloc (.cells (a.eval x).cells t), .inl (execOp_value (s := Instr.box t (a.eval x)) (by simp [execOp, ho]) ?_), ?_⟩
    · simp [Instr.box, newVar, newRow]
    · refine new_step (row := none) H hwf hf (grown_alloc w _) (x := .pointer (some ⟨w.heap.size, 0, none⟩)) (fun b hb => ?_) ?_ (fun i hi => ?_) ?_ (fun i hi => ?_)
      · simp only [blockOf, Option.some.injEq] at hb; omega
      · exact ⟨ti, w.heap.size, (a.eval x).cells, ht, by rw [put_same], heap_alloc_new w _, hbc⟩
      · rw [hr0] at hi; cases hi
      · exact ⟨KindAt.self hT ht, w.heap.size, by rw [put_same], rfl⟩
      · simpa [refsOf, refs0] using hi
  split at h
  · rename_i u hk
    replace h := opt_some.1 h
    obtain ⟨d, hd, h⟩ := h
    have hrep := svD_rel hd (hev x s1 hs1)
    refine hgen d hd (.whole d) ⟨⟨u, hk⟩, ?_⟩ rfl h
    have hrep' := hrep
    rw [hk] at hrep'
    obtain ⟨ti', cs, hv, _⟩ := hrep'.inv_agg
    rw [hv] at hrep ⊢
    exact hrep
  · rename_i hk
    replace h := opt_some.1 h
    obtain ⟨d, hd, h⟩ := h
    have hrep := svD_rel hd (hev x s1 hs1)
    have hks : ti.kt.single = true := by cases hkk : ti.kt <;> first | rfl | exact absurd hkk (hk _)
    have hc1 := hi.cells_of_single hks
    refine hgen d hd (.cells [.val ti.kt d]) ⟨?_, ?_, ?_⟩ (by simp [objRefs0, refsL, refs0]) h
    · rw [(hrep.cells_single hks).1, hc1]; rfl
    · rw [hc1]; rfl
    · intro i s c hs hc
      rw [(hrep.cells_single hks).1] at hc
      cases i with
      | zero => simp at hs hc; subst hs hc; exact hrep
      | succ i => simp at hs

end
end Go.Proofs.Ythempoaickahcaa.DS
