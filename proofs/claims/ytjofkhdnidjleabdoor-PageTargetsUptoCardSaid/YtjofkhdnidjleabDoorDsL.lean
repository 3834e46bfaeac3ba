/- Operations that make or write memory. -/
import Derived.Test.YtjofkhdnidjleabDoorDsK
import Derived.Deep.Draws
set_option linter.unusedVariables false
set_option linter.unusedSimpArgs false
namespace Go.Proofs.YtjofkhdnidjleabDoor.DS
open Go.RowKit

/-- Every row and box that is named is there. -/
structure WF (st : St) : Prop where
  slots : ∀ t s, st.slots t = some s → ∀ i, i ∈ refsOf s → ∃ o, st.objs i = some o
  cells : ∀ j o, st.objs j = some o → ∀ i, i ∈ objRefs0 o → ∃ o', st.objs i = some o'

/-- A step of the state. -/
def Steps1 (tt : TT) (X : Nat → Prop) (w0 : World) (Mx : Mem) (ι : Nat → Value) (M : Mem) (st s : St) (w' : World) (v : SV) (u : Value) : Prop :=
  ∃ ι', HRel tt X w0 Mx ι' M s.objs w' ∧ (∀ t s1, s.slots t = some s1 → ∃ s0, st.slots t = some s0 ∧ ∀ v0, SVRel tt ι M s0 v0 → SVRel tt ι' M s1 v0) ∧ SVRel tt ι' M v u ∧ s.n = st.n ∧ WF s ∧
    ∀ i, i ∈ refsOf v → ∃ o, s.objs i = some o

section
variable {P : Program} {E : Env} (hT : TTok P E.tt) {draw : Bool} {st : St} {ops : List Oper} {L : List (Nat × Bool)} {a : Act} {w w0 : World} {X : Nat → Prop} {Mx : Mem} {ι : Nat → Value} {M : Mem}
  (hev : ∀ x s, ev st ops L x = some s → SVRel E.tt ι M s (a.eval x))
  (H : HRel E.tt X w0 Mx ι M st.objs w) (hwf : WF st)

include H hwf in
/-- A new object. -/
theorem new_step {id : Nat} (hf : st.objs id = none) {w' : World} {row : Option Nat} (hg : w.grownBy w' none) {x u : Value} (hx : ∀ b, blockOf x = some b → w.heap.size ≤ b) {ob : Obj} {v : SV}
    (hob : ObjRel E.tt (put ι id x) M w' id ob) (hor : ∀ i, i ∈ objRefs0 ob → i = id ∨ ∃ o, st.objs i = some o) (hv : SVRel E.tt (put ι id x) M v u) (hvr : ∀ i, i ∈ refsOf v → i = id) :
    Steps1 E.tt X w0 Mx ι M st { st with objs := put st.objs id (some ob) } w' v u := by
  have hne : ∀ i o, st.objs i = some o → i ≠ id := fun i o ho e => by subst e; rw [hf] at ho; cases ho
  have hin : ∀ i o, st.objs i = some o → ∃ o, put st.objs id (some ob) i = some o := fun i o ho => ⟨o, by rw [put_other _ _ _ (hne i o ho)]; exact ho⟩
  refine ⟨put ι id x, ?_, ?_, hv, rfl, ⟨?_, ?_⟩, ?_⟩
  · refine H.change hg (row := none) (fun b hb => by cases hb) (fun b hb => .inr (hx b hb)) ?_ ?_
    · intro i o' hi ho'
      simp only [put_other _ _ _ hi] at ho'
      refine ⟨o', ho', fun hr hh => hr.keep hi (fun hin' => ?_) hh⟩
      obtain ⟨o2, ho2⟩ := hwf.cells i o' ho' id hin'
      rw [hf] at ho2; cases ho2
    · intro o' ho'
      simp only [put_same, Option.some.injEq] at ho'
      subst ho'; exact hob
  · intro t s1 hs1
    refine ⟨s1, hs1, fun v0 hv0 => hv0.updι (fun hin' => ?_)⟩
    obtain ⟨o2, ho2⟩ := hwf.slots t s1 hs1 id hin'
    rw [hf] at ho2; cases ho2
  · intro t s1 hs1 i hi
    obtain ⟨o, ho⟩ := hwf.slots t s1 hs1 i hi
    exact hin i o ho
  · intro j o hj i hi
    by_cases hji : j = id
    · subst hji
      simp only [put_same, Option.some.injEq] at hj
      subst hj
      rcases hor i hi with rfl | ⟨o2, ho2⟩
      · exact ⟨ob, put_same _ _ _⟩
      · exact hin i o2 ho2
    · simp only [put_other _ _ _ hji] at hj
      obtain ⟨o2, ho2⟩ := hwf.cells j o hj i hi
      exact hin i o2 ho2
  · intro i hi
    rw [hvr i hi]
    exact ⟨ob, put_same _ _ _⟩

theorem grown_alloc (w : World) (o : Go.Obj) : w.grownBy (w.alloc o) none := World.grownBy_alloc w o none

theorem withObj_st {dst : Option Nat} {ob ob' : Obj} {vv : Nat → SV} {c0 c scr : Bool} {id : Nat} {v : SV} (h : withObj st dst ob vv c0 = some (.ob c id ob' scr v)) :
    dst = some id ∧ st.objs id = none ∧ c = c0 ∧ ob' = ob ∧ scr = false ∧ v = vv id := by
  unfold withObj at h
  split at h
  · replace h := cond_some.1 h
    obtain ⟨hf, h⟩ := h
    injection h with h; injection h with h1 h2 h3 h4 h5; subst h1 h2 h3 h4 h5
    refine ⟨rfl, ?_, rfl, rfl, rfl, rfl⟩
    unfold fresh at hf
    split at hf
    · cases hf
    · assumption
  · cases h

/-- What an operation that changes the state does. -/
def Does (P : Program) (tt : TT) (X : Nat → Prop) (w0 : World) (Mx : Mem) (ι : Nat → Value) (M : Mem) (a : Act) (w : World) (o : Oper) (st s : St) (v : SV) : Prop :=
  ∃ u w', ((execOp a.eval o).run P w = .ok (.value u) w' ∨ ((execOp a.eval o).run P w = .ok .skip w' ∧ u = undef)) ∧ Steps1 tt X w0 Mx ι M st s w' v u

theorem constSV_refs' {v : Value} {s : SV} (h : constSV v = some s) : refsOf s = [] := by
  unfold constSV at h
  split at h
  · injection h with h; subst h; rfl
  · obtain ⟨_, h⟩ := cond_some.1 h
    injection h with h; subst h; rfl
  · obtain ⟨_, h⟩ := cond_some.1 h
    injection h with h; subst h; rfl
  · injection h with h; subst h; rfl
  · injection h with h; subst h; rfl
  · cases h

include hT H hwf in
theorem alloc_sound {o : Oper} {t : TypeId} (ho : o.op = .alloc t) {c : Bool} {id : Nat} {ob : Obj} {scr : Bool} {v : SV} (h : allocO E st o.dst t = some (.ob c id ob scr v)) : Does P E.tt X w0 Mx ι M a w o st (obSt st id ob scr) v := by
  unfold allocO at h
  replace h := opt_some.1 h
  obtain ⟨ti, ht, h⟩ := h
  obtain ⟨hd, hf, rfl, rfl, rfl, rfl⟩ := withObj_st h
  obtain ⟨inf, z, h1, h2, hcs⟩ := zero_cells (M := M) hT ht (zeroSV (o.dst.getD 0)) (fun k => .inr ⟨_, rfl⟩)
  refine ⟨.pointer (some ⟨w.heap.size, 0, none⟩), w.alloc (.cells z.cells t), .inl (execOp_value (s := Instr.alloc t true (.tuple #[])) (by simp [execOp, ho]) ?_), ?_⟩
  · simp [Instr.alloc, zeroValue, run_info h1, h2, newVar, newRow]
  · refine new_step (row := none) H hwf hf (grown_alloc w _) (x := .pointer (some ⟨w.heap.size, 0, none⟩)) (fun b hb => ?_) ?_ (fun i hi => ?_) ?_ (fun i hi => ?_)
    · simp only [blockOf, Option.some.injEq] at hb; omega
    · obtain ⟨c1, c2, c3⟩ := hcs (put ι id (.pointer (some ⟨w.heap.size, 0, none⟩)))
      exact ⟨ti, w.heap.size, z.cells, ht, by rw [put_same], heap_alloc_new w _, c1, c2, c3⟩
    · obtain ⟨s, hs, hi⟩ := mem_refsL.1 hi
      rw [List.mem_map] at hs
      obtain ⟨k, hk, rfl⟩ := hs
      left
      rw [hd] at hi
      cases k <;> simp [zeroSV, refs0] at hi
      exact hi
    · exact ⟨KindAt.self hT ht, w.heap.size, by rw [put_same], rfl⟩
    · simpa [refsOf, refs0] using hi

include hT hev H hwf in
theorem box_sound {o : Oper} {t : TypeId} {x : Operand} (ho : o.op = .box t x) {c : Bool} {id : Nat} {ob : Obj} {scr : Bool} {v : SV} (h : boxO E st ops L o.dst t x = some (.ob c id ob scr v)) : Does P E.tt X w0 Mx ι M a w o st (obSt st id ob scr) v := by
  unfold boxO at h
  replace h := opt_some.1 h
  obtain ⟨ti, ht, h⟩ := h
  replace h := opt_some.1 h
  obtain ⟨s1, hs1, h⟩ := h
  replace h := opt_some.1 h
  obtain ⟨bc, hbc0, h⟩ := h
  have hi := hT t ti ht
  obtain ⟨hdst, hf, rfl, rfl, rfl, rfl⟩ := withObj_st h
  have hs := hev x s1 hs1
  have hfresh : ∀ i, i ∈ refsOf s1 → i ≠ id := by
    intro i hi e
    subst e
    cases x with
    | tmp tx =>
      have hs1' := (cond_some.1 hs1).2
      obtain ⟨o2, ho2⟩ := hwf.slots tx s1 hs1' i hi
      rw [hf] at ho2; cases ho2
    | const v =>
      have := constSV_refs' hs1
      rw [this] at hi; cases hi
    | _ => cases hs1
  have hthere : ∀ i, i ∈ refsOf s1 → ∃ o, st.objs i = some o := by
    intro i hi
    cases x with
    | tmp tx => exact hwf.slots tx s1 (cond_some.1 hs1).2 i hi
    | const v =>
      have := constSV_refs' hs1
      rw [this] at hi; cases hi
    | _ => cases hs1
  have hs' : SVRel E.tt (put ι id (.pointer (some ⟨w.heap.size, 0, none⟩))) M s1 (a.eval x) := hs.updι (fun hin => hfresh id hin rfl)
  have hbc : BCRel E.tt (put ι id (.pointer (some ⟨w.heap.size, 0, none⟩))) M ti (a.eval x).cells bc ∧ ∀ i, i ∈ objRefs0 (.box t bc) → i ∈ refsOf s1 := by
    have dat : ∀ d, svD ti.kt s1 = some d → ti.kt.single = true → BCRel E.tt (put ι id (.pointer (some ⟨w.heap.size, 0, none⟩))) M ti (a.eval x).cells (.cells [.val ti.kt d]) ∧ ∀ i, i ∈ objRefs0 (.box t (.cells [.val ti.kt d])) → i ∈ refsOf s1 := by
      intro d hd hks
      have hrep := svD_rel hd hs
      have hc1 := hi.cells_of_single hks
      refine ⟨⟨?_, ?_, ?_⟩, fun i hi => by simp [objRefs0, refsL, refs0] at hi⟩
      · rw [(hrep.cells_single hks).1, hc1]; rfl
      · rw [hc1]; rfl
      · intro i s c hs hc
        rw [(hrep.cells_single hks).1] at hc
        cases i with
        | zero => simp at hs hc; subst hs hc; exact hrep
        | succ i => simp at hs
    have whole : ∀ u d, svD ti.kt s1 = some d → ti.kt = .agg u → BCRel E.tt (put ι id (.pointer (some ⟨w.heap.size, 0, none⟩))) M ti (a.eval x).cells (.whole d) ∧ ∀ i, i ∈ objRefs0 (.box t (.whole d)) → i ∈ refsOf s1 := by
      intro u d hd hk
      have hrep := svD_rel hd hs
      refine ⟨⟨⟨u, hk⟩, ?_⟩, fun i hi => by cases hi⟩
      have hrep' := hrep
      rw [hk] at hrep'
      obtain ⟨ti', cs, hv, _⟩ := hrep'.inv_agg
      rw [hv] at hrep ⊢
      exact hrep
    have one : ∀ s0, SVRel0 E.tt (put ι id (.pointer (some ⟨w.heap.size, 0, none⟩))) M s0 (a.eval x) → ti.kt.single = true → (a.eval x).cells = #[a.eval x] → (∀ i, i ∈ refs0 s0 → i ∈ refsOf s1) →
        BCRel E.tt (put ι id (.pointer (some ⟨w.heap.size, 0, none⟩))) M ti (a.eval x).cells (.cells [s0]) ∧ ∀ i, i ∈ objRefs0 (.box t (.cells [s0])) → i ∈ refsOf s1 := by
      intro s0 h0 hks hc hrf
      have hc1 := hi.cells_of_single hks
      refine ⟨⟨by rw [hc, hc1]; rfl, by rw [hc1]; rfl, ?_⟩, fun i hi => ?_⟩
      · intro i s c hs hcc
        rw [hc] at hcc
        cases i with
        | zero => simp at hs hcc; subst hs hcc; exact h0
        | succ i => simp at hs
      · obtain ⟨s, hs, hi2⟩ := mem_refsL.1 hi
        simp at hs; subst hs; exact hrf i hi2
    unfold boxC at hbc0
    split at hbc0
    · rename_i u hk
      split at hbc0
      · rename_i u' ks l
        replace hbc0 := cond_some.1 hbc0
        obtain ⟨he, hbc0⟩ := hbc0
        injection hbc0 with hbc0; subst hbc0
        have he := beq_iff.1 he
        subst he
        obtain ⟨ti', vs, h1, h2, h3, hv, h5, h6, h7⟩ := hs'
        rw [ht] at h1; injection h1 with h1; subst h1
        refine ⟨⟨by rw [hv]; simp [Value.cells, h5, h6, h3], by rw [h6, h3], fun i s c hs hc => ?_⟩, fun i hi => hi⟩
        rw [hv] at hc
        exact h7 i s c hs (by simpa [Value.cells] using hc)
      · replace hbc0 := opt_some.1 hbc0
        obtain ⟨d, hd, hbc0⟩ := hbc0
        injection hbc0 with hbc0; subst hbc0
        exact whole u d hd hk
    · rename_i e hk
      have hks : ti.kt.single = true := by rw [hk]; rfl
      split at hbc0
      · injection hbc0 with hbc0; subst hbc0
        have hv : a.eval x = .slice none 0 0 := hs'
        exact one .nil hv hks (by rw [hv]; rfl) (fun i hi => by cases hi)
      · rename_i i0
        injection hbc0 with hbc0; subst hbc0
        obtain ⟨h1, q, n, c, h2⟩ : a.eval x = _ ∧ ∃ a n c, put ι id (.pointer (some ⟨w.heap.size, 0, none⟩)) i0 = .slice a n c := hs'
        exact one (.own i0) ⟨h1, q, n, c, h2⟩ hks (by rw [h1, h2]; rfl) (fun i hi => hi)
      · replace hbc0 := opt_some.1 hbc0
        obtain ⟨d, hd, hbc0⟩ := hbc0
        injection hbc0 with hbc0; subst hbc0
        exact dat d hd hks
    · rename_i hna hns
      replace hbc0 := opt_some.1 hbc0
      obtain ⟨d, hd, hbc0⟩ := hbc0
      injection hbc0 with hbc0; subst hbc0
      refine dat d hd ?_
      cases hkt : ti.kt with
      | agg u => exact absurd hkt (hna u)
      | _ => rfl
  refine ⟨.pointer (some ⟨w.heap.size, 0, none⟩), w.alloc (.cells (a.eval x).cells t), .inl (execOp_value (s := Instr.box t (a.eval x)) (by simp [execOp, ho]) ?_), ?_⟩
  · simp [Instr.box, newVar, newRow]
  · refine new_step (row := none) H hwf hf (grown_alloc w _) (x := .pointer (some ⟨w.heap.size, 0, none⟩)) (fun b hb => ?_) ?_ (fun i hi => ?_) ?_ (fun i hi => ?_)
    · simp only [blockOf, Option.some.injEq] at hb; omega
    · exact ⟨ti, w.heap.size, (a.eval x).cells, ht, by rw [put_same], heap_alloc_new w _, hbc.1⟩
    · exact .inr (hthere i (hbc.2 i hi))
    · exact ⟨KindAt.self hT ht, w.heap.size, by rw [put_same], rfl⟩
    · simpa [refsOf, refs0] using hi

end
end Go.Proofs.YtjofkhdnidjleabDoor.DS
