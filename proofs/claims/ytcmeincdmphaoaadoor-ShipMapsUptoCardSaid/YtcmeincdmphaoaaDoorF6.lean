/- The data-level semantics: plain data, an interpreter of the program over them, and its soundness; part 6. -/
import Derived.Test.YtcmeincdmphaoaaDoorF5
set_option linter.unusedVariables false
set_option linter.unusedSimpArgs false
namespace Go.Proofs.YtcmeincdmphaoaaDoor.DS

section
variable {P : Program} {E : Env} {X : Nat → Prop} {w0 w w' : World} {Mx : Mem} {pv : Nat → Option Value} {done : Nat → Prop} {st st1 st2 : St} {a : Act} {draw : Bool} {callk : Nat → List D → R}

theorem RI.congr {ops : List Oper} {done' : Nat → Prop} (h : RI E X w0 Mx pv ops done st a w) (e : ∀ k, done k ↔ done' k) : RI E X w0 Mx pv ops done' st a w := by
  have : done = done' := funext fun k => propext (e k)
  subst this; exact h

/-- A region that is carried out in the text's order. -/
theorem ops_sound {α : Type} (hT : TTok P E.tt) {W0 : World} (hS : Same W0 w0) (hX : ∀ b, X b → W0.heap.size ≤ b) (hcall : CallOK P E W0 callk) {ops : Array Oper} (hn : nodupN (dstsOf ops.toList) = true) (hg : guardsOk ops.toList draw = true) (hpn : ∀ i o, nthOp ops.toList i = some o → ∀ t, o.dst = some t → pv t = none) {Q : Exit → Act → World → Prop} {K : St → Option α} {r : α}
    (hQ : ∀ st' a' w', RI E X w0 Mx pv ops.toList (fun k => k < ops.size) st' a' w' → K st' = some r → Q .normal a' w') :
    ∀ n i st a w, i + n = ops.size → RI E X w0 Mx pv ops.toList (fun k => k < i) st a w → opsK E callk ops.toList draw (upFrom i n) st K = some r → wpOps P ops Q (List.range' i n) a w := by
  intro n
  induction n with
  | zero =>
    intro i st a w hin h hk
    have : i = ops.size := by omega
    subst this
    exact hQ st a w h hk
  | succ n ih =>
    intro i st a w hin h hk
    simp only [upFrom, opsK] at hk
    rw [List.range'_succ, wpOps_cons]
    have hlt : i < ops.size := by omega
    have hi : nthOp ops.toList i = some ops[i] := by rw [nthOp_toList]; simp [hlt]
    by_cases hH : draw = true ∨ isH E ops.toList draw i st = false
    case neg =>
      simp only [not_or, Bool.not_eq_true, Bool.not_eq_false] at hH
      obtain ⟨hd, hH⟩ := hH
      refine hopG_sound hT hS hX hcall hn hg hi (by omega) (fun j w hgd => ?_) (hpn i _ hi) h hd hH hk ?_
      · obtain ⟨_, _, _, _, hlt, _⟩ := guards_spec hg hi hgd; exact hlt
      · intro st' a' w' hk' h'
        exact ih (i + 1) st' a' w' (by omega) (h'.congr fun k => by omega) hk'
    rw [opK_eq _ _ _ _ _ _ _ hH] at hk
    obtain ⟨p, hp, hk⟩ := opt_some.1 hk
    obtain ⟨st', hu, hk⟩ := opt_some.1 hk
    refine op_sound hT hS hX hcall hn hg hi (by omega) (fun j w hgd => ?_) (hpn i _ hi) h hp hu ?_
    · obtain ⟨_, _, _, _, hlt, _⟩ := guards_spec hg hi hgd; exact hlt
    · intro a' w' h'
      exact ih (i + 1) st' a' w' (by omega) (h'.congr fun k => by omega) hk

/-! ### Change of places -/
variable {ops : List Oper}

def putD {α : Type} (f : Nat → Option α) (d : Option Nat) (v : α) : Nat → Option α := match d with | some t => put f t (some v) | none => f
def putOb (f : Nat → Option Obj) (x : Option (Nat × Obj × Bool)) : Nat → Option Obj := match x with | some (id, ob, _) => put f id (some ob) | none => f
def scOb (x : Option (Nat × Obj × Bool)) : Option Nat := match x with | some (id, _, true) => some id | _ => none
def scrSl (k : Option Nat) (f : Nat → Option SV) : Nat → Option SV := match k with | some id => fun t => omap (scrubS id) (f t) | none => f
def scrOb (k : Option Nat) (f : Nat → Option Obj) : Nat → Option Obj := match k with | some id => fun i => omap (scrubObj id) (f i) | none => f
theorem putD_cases {α : Type} (f : Nat → Option α) (d : Option Nat) (v : α) (t : Nat) : (d = some t ∧ putD f d v t = some v) ∨ (d ≠ some t ∧ putD f d v t = f t) := by
  cases d with
  | none => exact .inr ⟨(fun e => by cases e), rfl⟩
  | some u =>
    by_cases e : t = u
    · subst e; exact .inl ⟨rfl, put_same _ _ _⟩
    · exact .inr ⟨fun h => (by injection h with h; exact e h.symm), put_other _ _ _ e⟩
theorem putOb_cases (f : Nat → Option Obj) (x : Option (Nat × Obj × Bool)) (i : Nat) : (∃ ob scr, x = some (i, ob, scr) ∧ putOb f x i = some ob) ∨ putOb f x i = f i := by
  cases x with
  | none => exact .inr rfl
  | some y =>
    obtain ⟨id, ob, scr⟩ := y
    by_cases e : i = id
    · subst e; exact .inl ⟨ob, scr, rfl, put_same _ _ _⟩
    · exact .inr (put_other _ _ _ e)
def dstOk (n : Nat) : Option Nat → Bool | some t => Nat.ble (t + 1) n | none => true

/-! What is stale. -/
theorem names_gonel (l : List Nat) (id : Nat) : (SV.gonel l).names id = false := rfl
theorem xrefs_names {s : SV} {id : Nat} (h : s.names id = true) : xrefs s = refsOf s := by
  cases s with
  | gonel l => cases h
  | _ => rfl
theorem xrefs_scrub (id : Nat) (s : SV) : xrefs (scrubS id s) = xrefs s := by
  unfold scrubS
  cases hn : s.names id with
  | true => exact (xrefs_names hn).symm
  | false => rfl
theorem scrub_id {id : Nat} {s : SV} (h : id ∉ xrefs s) : scrubS id s = s := by
  unfold scrubS
  cases hn : s.names id with
  | true => exact absurd (xrefs_of (memN_iff.1 hn)) h
  | false => rfl
theorem scrub_comm (a b : Nat) (s : SV) : scrubS a (scrubS b s) = scrubS b (scrubS a s) := by
  cases ha : s.names a <;> cases hb : s.names b <;> simp [scrubS, ha, hb, names_gonel, refsOf, refs0]
theorem scrubCells_cons (id : Nat) (s : SV) (l : List SV) : scrubCells id (s :: l) = scrubS id s :: scrubCells id l := rfl
theorem cellX_scrub (id : Nat) (l : List SV) : cellX (scrubCells id l) = cellX l := by
  induction l with
  | nil => rfl
  | cons s r ih => rw [scrubCells_cons]; simp only [cellX, ih, xrefs_scrub]
theorem scrubCells_id {id : Nat} {l : List SV} (h : id ∉ cellX l) : scrubCells id l = l := by
  induction l with
  | nil => rfl
  | cons s r ih =>
    simp only [cellX, List.mem_append, not_or] at h
    rw [scrubCells_cons, scrub_id h.1, ih h.2]
theorem scrubCells_comm (a b : Nat) (l : List SV) : scrubCells a (scrubCells b l) = scrubCells b (scrubCells a l) := by
  induction l with
  | nil => rfl
  | cons s r ih => simp only [scrubCells_cons, scrub_comm a b, ih]
theorem scrubObj_comm (a b : Nat) (o : Obj) : scrubObj a (scrubObj b o) = scrubObj b (scrubObj a o) := by
  cases o with
  | box u c => cases c <;> simp [scrubObj, scrubCells_comm a b]
  | _ => rfl
theorem refsOf_scrub {id i : Nat} {s : SV} (h : i ∈ refsOf (scrubS id s)) : i ∈ refsOf s := by
  unfold scrubS at h
  cases hn : s.names id with
  | true => rw [hn] at h; cases h
  | false => rw [hn] at h; exact h
theorem refs0_scrub {id i : Nat} {s : SV} (h : i ∈ refs0 (scrubS id s)) : i ∈ refs0 s := by
  unfold scrubS at h
  cases hn : s.names id with
  | true => rw [hn] at h; cases h
  | false => rw [hn] at h; exact h
theorem refsL_scrub {id i : Nat} {l : List SV} (h : i ∈ refsL (scrubCells id l)) : i ∈ refsL l := by
  induction l with
  | nil => exact h
  | cons s r ih =>
    rw [scrubCells_cons] at h
    simp only [refsL, List.mem_append] at h ⊢
    exact h.imp refs0_scrub ih
theorem objRefs0_scrub {id i : Nat} {o : Obj} (h : i ∈ objRefs0 (scrubObj id o)) : i ∈ objRefs0 o := by
  cases o with
  | box u c =>
    cases c with
    | whole d => exact h
    | cells l => exact refsL_scrub h
  | _ => exact h
theorem scrubObj_id {id : Nat} {o : Obj} (h : id ∉ objX o) : scrubObj id o = o := by
  cases o with
  | box u c =>
    cases c with
    | whole d => rfl
    | cells l => simp only [scrubObj, scrubCells_id (show id ∉ cellX l from h)]
  | _ => rfl
theorem scrOb_some (k : Option Nat) (f : Nat → Option Obj) (i : Nat) : (∃ o, scrOb k f i = some o) ↔ ∃ o, f i = some o := by
  cases k with
  | none => rfl
  | some id => unfold scrOb; simp only; cases f i <;> simp [omap]
theorem scrSl_refs {k : Option Nat} {f : Nat → Option SV} {t : Nat} {s : SV} (h : scrSl k f t = some s) : ∃ s0, f t = some s0 ∧ (∀ i, i ∈ refsOf s → i ∈ refsOf s0) ∧ (s = s0 ∨ ∃ id, k = some id ∧ s = scrubS id s0) := by
  cases k with
  | none => exact ⟨s, h, fun _ h => h, .inl rfl⟩
  | some id =>
    unfold scrSl at h
    simp only at h
    cases hf : f t with
    | none => rw [hf] at h; cases h
    | some s0 =>
      rw [hf] at h
      injection h with h; subst h
      exact ⟨s0, rfl, fun _ h => refsOf_scrub h, .inr ⟨id, rfl, rfl⟩⟩
theorem scrOb_refs {k : Option Nat} {f : Nat → Option Obj} {i : Nat} {o : Obj} (h : scrOb k f i = some o) : ∃ o0, f i = some o0 ∧ (∀ j, j ∈ objRefs0 o → j ∈ objRefs0 o0) := by
  cases k with
  | none => exact ⟨o, h, fun _ h => h⟩
  | some id =>
    unfold scrOb at h
    simp only at h
    cases hf : f i with
    | none => rw [hf] at h; cases h
    | some o0 =>
      rw [hf] at h
      injection h with h; subst h
      exact ⟨o0, rfl, fun _ h => objRefs0_scrub h⟩

theorem applyU_eq {o : Oper} {p : Option Nat × Upd} (h : UFact st o p) (st' : St) : applyU st' p.1 p.2 = cond (dstOk st'.n p.1) (some ⟨st'.n, putD (scrSl (scOb p.2.ob) st'.slots) p.1 p.2.v, scrOb (scOb p.2.ob) (putOb st'.objs p.2.ob)⟩) none := by
  obtain ⟨d, v, ob, obs⟩ := p
  have h1 := h.obs
  simp only at h1
  subst h1
  have key : ∀ s : St, s.n = st'.n → s.slots = scrSl (scOb ob) st'.slots → s.objs = scrOb (scOb ob) (putOb st'.objs ob) → putSlot s d v = cond (dstOk st'.n d) (some ⟨st'.n, putD (scrSl (scOb ob) st'.slots) d v, scrOb (scOb ob) (putOb st'.objs ob)⟩) none := by
    intro s e1 e2 e3
    cases s with
    | mk n sl os =>
      simp only at e1 e2 e3
      subst e1 e2 e3
      cases d with
      | none => rfl
      | some t => rfl
  unfold applyU
  cases ob with
  | none => exact key st' rfl rfl rfl
  | some x =>
    obtain ⟨id, o', scr⟩ := x
    cases scr with
    | false => exact key _ rfl rfl rfl
    | true => exact key _ rfl rfl rfl

theorem applyU_wf (hwf : WF st) {o : Oper} {p : Option Nat × Upd} (h : UFact st o p) (hap : applyU st p.1 p.2 = some st1) : WF st1 := by
  rw [applyU_eq h] at hap
  obtain ⟨_, hap⟩ := cond_some.1 hap
  injection hap with hap; subst hap
  have hin : ∀ i ob, st.objs i = some ob → ∃ ob', scrOb (scOb p.2.ob) (putOb st.objs p.2.ob) i = some ob' := by
    intro i ob hi
    rw [scrOb_some]
    rcases putOb_cases st.objs p.2.ob i with ⟨ob', _, _, h⟩ | h
    · exact ⟨ob', h⟩
    · exact ⟨ob, h.trans hi⟩
  constructor
  · intro t s hs i hi
    simp only at hs ⊢
    have hs' : (∃ s0, st.slots t = some s0 ∧ i ∈ refsOf s0) ∨ s = p.2.v := by
      rcases putD_cases (scrSl (scOb p.2.ob) st.slots) p.1 p.2.v t with ⟨_, h⟩ | ⟨_, h⟩
      · rw [h] at hs; injection hs with hs; exact .inr hs.symm
      · rw [h] at hs
        obtain ⟨s0, h1, h2, _⟩ := scrSl_refs hs
        exact .inl ⟨s0, h1, h2 i hi⟩
    rcases hs' with ⟨s0, hs', hi'⟩ | rfl
    · obtain ⟨ob, hob⟩ := hwf.slots t s0 hs' i hi'
      exact hin i ob hob
    · rcases h.vrefs i hi with ⟨ob, hob⟩ | ⟨x, hx⟩
      · exact hin i ob hob
      · rw [scrOb_some, hx]; exact ⟨x.1, put_same _ _ _⟩
  · intro j ob hj i hi
    simp only at hj ⊢
    obtain ⟨ob0, hj0, hr0⟩ := scrOb_refs hj
    have hi := hr0 i hi
    have hj' : st.objs j = some ob0 ∨ ∃ scr, p.2.ob = some (j, ob0, scr) := by
      rcases putOb_cases st.objs p.2.ob j with ⟨ob', scr, hx, h⟩ | h
      · rw [h] at hj0; injection hj0 with hj0; subst hj0; exact .inr ⟨scr, hx⟩
      · rw [h] at hj0; exact .inl hj0
    rcases hj' with hj' | ⟨scr, hx⟩
    · obtain ⟨ob', hob'⟩ := hwf.cells j ob0 hj' i hi
      exact hin i ob' hob'
    · rcases (h.ob j ob0 scr hx).refs i hi with rfl | ⟨ob', hob'⟩
      · rw [scrOb_some, hx]; exact ⟨ob0, put_same _ _ _⟩
      · exact hin i ob' hob'


structure Indep (ops : List Oper) (i j : Nat) (oi oj : Oper) : Prop where
  alli : (opEff oi).all = false
  allj : (opEff oj).all = false
  di : ∀ d, oi.dst = some d → d ∉ usesOf ops j
  dj : ∀ d, oj.dst = some d → d ∉ usesOf ops i
  dd : ∀ d d', oi.dst = some d → oj.dst = some d' → d ≠ d'
theorem indep_spec {i j : Nat} {oi oj : Oper} (hi : nthOp ops i = some oi) (hj : nthOp ops j = some oj) (h : indep ops i j = true) : Indep ops i j oi oj := by
  unfold indep at h
  rw [hi, hj] at h
  simp only [Bool.and_eq_true, Bool.not_eq_true'] at h
  obtain ⟨⟨q1, q2⟩, h2, h3, h4⟩ := h
  refine ⟨q1, q2, ?_, ?_, ?_⟩
  · intro d hd; unfold dstIn at h2; rw [hd] at h2; exact memN_false h2
  · intro d hd; unfold dstIn at h3; rw [hd] at h3; exact memN_false h3
  · intro d d' hd hd'; rw [hd, hd'] at h4; simp only [Bool.not_eq_true'] at h4; exact beq_false.1 h4
theorem Indep.symm {i j : Nat} {oi oj : Oper} (h : Indep ops i j oi oj) : Indep ops j i oj oi :=
  ⟨h.allj, h.alli, h.dj, h.di, fun d d' h1 h2 e => h.dd d' d h2 h1 e.symm⟩

theorem refsAt_congr {l : List Nat} (h : ∀ t ∈ l, st1.slots t = st.slots t) : refsAt st1 l = refsAt st l := by
  induction l with
  | nil => rfl
  | cons t r ih =>
    simp only [refsAt, h t List.mem_cons_self, ih (fun u hu => h u (List.mem_cons_of_mem _ hu))]
theorem bptrs_sub {l : List Nat} {x : Nat} (h : x ∈ bptrsAt st l) : x ∈ refsAt st l := by
  induction l with
  | nil => cases h
  | cons t r ih =>
    simp only [bptrsAt] at h
    rw [mem_refsAt]
    have hr : x ∈ bptrsAt st r → ∃ t' ∈ t :: r, ∃ s, st.slots t' = some s ∧ x ∈ refsOf s := fun h => by
      obtain ⟨t', h1, s, h2, h3⟩ := mem_refsAt.1 (ih h)
      exact ⟨t', List.mem_cons_of_mem _ h1, s, h2, h3⟩
    split at h
    · rename_i id u off k hs
      rcases List.mem_cons.1 h with rfl | h
      · exact ⟨t, List.mem_cons_self, _, hs, by simp [refsOf, refs0]⟩
      · exact hr h
    · exact hr h
theorem bptrs_congr {l : List Nat} (h : ∀ t ∈ l, st1.slots t = st.slots t) : bptrsAt st1 l = bptrsAt st l := by
  induction l with
  | nil => rfl
  | cons t r ih => simp only [bptrsAt, h t List.mem_cons_self, ih (fun u hu => h u (List.mem_cons_of_mem _ hu))]
theorem opds_in {o : Oper} {i : Nat} (hi : nthOp ops i = some o) {l : List Operand} (hl : ∀ x ∈ l, x ∈ o.op.operands.toList) : ∀ t ∈ opdsUses l, t ∈ usesOf ops i := by
  intro t ht
  unfold usesOf
  rw [hi]
  refine List.mem_append_left _ ?_
  have : ∀ (l : List Operand), t ∈ opdsUses l → (∀ x ∈ l, x ∈ o.op.operands.toList) → ∃ x ∈ o.op.operands.toList, x = .tmp t := by
    intro l
    induction l with
    | nil => intro h _; cases h
    | cons x r ih =>
      intro h hx
      simp only [opdsUses, List.mem_append] at h
      rcases h with h | h
      · refine ⟨x, hx x List.mem_cons_self, ?_⟩
        cases x with
        | tmp v => simp only [opdUses, List.mem_singleton] at h; rw [h]
        | _ => cases h
      · exact ih h fun y hy => hx y (List.mem_cons_of_mem _ hy)
  obtain ⟨x, hx, rfl⟩ := this l ht hl
  exact opdsUses_mem hx rfl
theorem wrAt_cases {o : Oper} {i : Nat} (hi : nthOp ops i = some o) : ∃ l, (∀ t ∈ l, t ∈ usesOf ops i) ∧ ((∀ st : St, wrAt st o = refsAt st l) ∨ ∀ st : St, wrAt st o = bptrsAt st l) := by
  cases hop : o.op with
  | store t a x =>
    refine ⟨opdsUses [a], opds_in hi (fun y hy => ?_), .inl fun st => ?_⟩
    · rw [List.mem_singleton.1 hy]; simp [hop, Op.operands]
    · simp [wrAt, hop, opdsUses]
  | call c =>
    have harg : ∀ x ∈ c.args.toList, x ∈ o.op.operands.toList := by
      intro x hx
      rw [hop]
      simp only [Op.operands, Call.operands, Array.toList_append, List.mem_append]
      exact .inr hx
    cases hcal : c.callee with
    | value v =>
      cases v with
      | func f => exact ⟨opdsUses c.args.toList, opds_in hi harg, .inr fun st => by simp [wrAt, hop, hcal]⟩
      | _ => exact ⟨[], fun t h => (by cases h), .inl fun st => (by simp [wrAt, hop, hcal, refsAt])⟩
    | builtin b =>
      cases b with
      | append =>
        cases hargs : c.args.toList with
        | nil => exact ⟨[], fun t h => (by cases h), .inl fun st => (by simp [wrAt, hop, hcal, hargs, refsAt])⟩
        | cons s r => exact ⟨opdsUses [s], opds_in hi (fun y hy => by rw [List.mem_singleton.1 hy]; exact harg s (by rw [hargs]; simp)), .inl fun st => by simp [wrAt, hop, hcal, hargs, opdsUses]⟩
      | _ => exact ⟨[], fun t h => (by cases h), .inl fun st => (by simp [wrAt, hop, hcal, refsAt])⟩
    | _ => exact ⟨[], fun t h => (by cases h), .inl fun st => (by simp [wrAt, hop, hcal, refsAt])⟩
  | _ => exact ⟨[], fun t h => (by cases h), .inl fun st => (by simp [wrAt, hop, refsAt])⟩
theorem wrAt_sub {o : Oper} {i : Nat} (hi : nthOp ops i = some o) {x : Nat} (hx : x ∈ wrAt st o) : x ∈ refsAt st (usesOf ops i) := by
  obtain ⟨l, h1, h2 | h2⟩ := wrAt_cases hi
  · rw [h2] at hx
    obtain ⟨t, ht, s, hs, hr⟩ := mem_refsAt.1 hx
    exact mem_refsAt.2 ⟨t, h1 t ht, s, hs, hr⟩
  · rw [h2] at hx
    obtain ⟨t, ht, s, hs, hr⟩ := mem_refsAt.1 (bptrs_sub hx)
    exact mem_refsAt.2 ⟨t, h1 t ht, s, hs, hr⟩
theorem wrAt_congr {o : Oper} {i : Nat} (hi : nthOp ops i = some o) (h : ∀ t ∈ usesOf ops i, st1.slots t = st.slots t) : wrAt st1 o = wrAt st o := by
  obtain ⟨l, h1, h2 | h2⟩ := wrAt_cases hi
  · rw [h2, h2]; exact refsAt_congr fun t ht => h t (h1 t ht)
  · rw [h2, h2]; exact bptrs_congr fun t ht => h t (h1 t ht)
theorem disjL_iff {l m : List Nat} : disjL l m = true ↔ ∀ x ∈ l, x ∉ m := by
  induction l with
  | nil => simp [disjL]
  | cons x r ih =>
    simp only [disjL, List.forall_mem_cons]
    cases h : memN x m with
    | true => simp [memN_iff.1 h]
    | false => simp [memN_false h, ih]

theorem mem_xrefsAt {i : Nat} {l : List Nat} : i ∈ xrefsAt st l ↔ ∃ t ∈ l, ∃ s, st.slots t = some s ∧ i ∈ xrefs s := by
  induction l with
  | nil => simp [xrefsAt]
  | cons t r ih =>
    simp only [xrefsAt, List.mem_cons, exists_eq_or_imp]
    cases st.slots t with
    | none => simp [ih]
    | some s => simp [ih]
theorem xrefsAt_congr {l : List Nat} (h : ∀ t ∈ l, st1.slots t = st.slots t) : xrefsAt st1 l = xrefsAt st l := by
  induction l with
  | nil => rfl
  | cons t r ih =>
    simp only [xrefsAt, h t List.mem_cons_self, ih (fun u hu => h u (List.mem_cons_of_mem _ hu))]
theorem scAt_cases {o : Oper} {i : Nat} (hi : nthOp ops i = some o) : ∃ l, (∀ t ∈ l, t ∈ usesOf ops i) ∧ ∀ st : St, scAt st o = refsAt st l := by
  cases hop : o.op with
  | call c =>
    have harg : ∀ x ∈ c.args.toList, x ∈ o.op.operands.toList := by
      intro x hx
      rw [hop]
      simp only [Op.operands, Call.operands, Array.toList_append, List.mem_append]
      exact .inr hx
    cases hcal : c.callee with
    | builtin b =>
      cases b with
      | append =>
        cases hargs : c.args.toList with
        | nil => exact ⟨[], fun t h => (by cases h), fun st => (by simp [scAt, hop, hcal, hargs, refsAt])⟩
        | cons s r => exact ⟨opdsUses [s], opds_in hi (fun y hy => by rw [List.mem_singleton.1 hy]; exact harg s (by rw [hargs]; simp)), fun st => by simp [scAt, hop, hcal, hargs, opdsUses]⟩
      | _ => exact ⟨[], fun t h => (by cases h), fun st => (by simp [scAt, hop, hcal, refsAt])⟩
    | _ => exact ⟨[], fun t h => (by cases h), fun st => (by simp [scAt, hop, hcal, refsAt])⟩
  | _ => exact ⟨[], fun t h => (by cases h), fun st => (by simp [scAt, hop, refsAt])⟩
theorem scAt_congr {o : Oper} {i : Nat} (hi : nthOp ops i = some o) (h : ∀ t ∈ usesOf ops i, st1.slots t = st.slots t) : scAt st1 o = scAt st o := by
  obtain ⟨l, h1, h2⟩ := scAt_cases hi
  rw [h2, h2]; exact refsAt_congr fun t ht => h t (h1 t ht)
theorem scAt_sub {o : Oper} {i : Nat} (hi : nthOp ops i = some o) {x : Nat} (hx : x ∈ scAt st o) : x ∈ refsAt st (usesOf ops i) := by
  obtain ⟨l, h1, h2⟩ := scAt_cases hi
  rw [h2] at hx
  obtain ⟨t, ht, s, hs, hr⟩ := mem_refsAt.1 hx
  exact mem_refsAt.2 ⟨t, h1 t ht, s, hs, hr⟩
theorem foot_some {i : Nat} {o : Oper} (hi : nthOp ops i = some o) (st : St) : footOf ops i st = ⟨refsAt st (usesOf ops i), wrAt st o, xrefsAt st (usesOf ops i) ++ opX st o (usesOf ops i), scAt st o⟩ := by
  unfold footOf; rw [hi]
theorem Dp.foot {i : Nat} {o : Oper} (hi : nthOp ops i = some o) {x : Nat} (h : Dp st o x) : x ∈ (footOf ops i st).d := by
  rw [foot_some hi]
  have hu : ∀ t, t ∈ opdsUses o.op.operands.toList → t ∈ usesOf ops i := by
    intro t ht; unfold usesOf; rw [hi]; exact List.mem_append_left _ ht
  simp only [List.mem_append]
  rcases h with ⟨t, ht, s, hs, hx⟩ | h
  · exact .inl (mem_xrefsAt.2 ⟨t, hu t ht, s, hs, xrefs_of hx⟩)
  · right
    unfold opX at h ⊢
    split at h
    · obtain ⟨t, ht, r⟩ := mem_loadXs.1 h
      exact mem_loadXs.2 ⟨t, hu t ht, r⟩
    · cases hb : ((opEff o).reads || (opEff o).writes) with
      | false => rw [hb] at h; cases h
      | true =>
        rw [hb] at h
        simp only [cond_true] at h ⊢
        obtain ⟨j, hj, hx⟩ := mem_boxX.1 h
        obtain ⟨t, ht, r⟩ := mem_refsAt.1 hj
        exact mem_boxX.2 ⟨j, mem_refsAt.2 ⟨t, hu t ht, r⟩, hx⟩

/-- What is rendered stale. -/
theorem scOb_mem {o : Oper} {p : Option Nat × Upd} (h : UFact st o p) {k : Nat} (hk : scOb p.2.ob = some k) : k ∈ scAt st o ∧ ∃ e es, p.2.ob = some (k, .arr e es, true) := by
  unfold scOb at hk
  split at hk
  · rename_i id ob hob
    injection hk with hk; subst hk
    rcases (h.ob _ _ _ hob).scr with h1 | ⟨⟨e, es, rfl⟩, _, h2⟩
    · cases h1
    · exact ⟨h2, e, es, hob⟩
  · cases hk
theorem scrOb_putOb {o : Oper} {p : Option Nat × Upd} (h : UFact st o p) (f : Nat → Option Obj) : scrOb (scOb p.2.ob) (putOb f p.2.ob) = putOb (scrOb (scOb p.2.ob) f) p.2.ob := by
  cases hk : scOb p.2.ob with
  | none => rfl
  | some k =>
    obtain ⟨_, e, es, hob⟩ := scOb_mem h hk
    rw [hob]
    funext i
    simp only [scrOb, putOb, put]
    cases Nat.beq i k <;> rfl

section
variable {i j : Nat} {oi oj : Oper} {pj : Option Nat × Upd}
theorem applyU_st (hwf : WF st) (hj : nthOp ops j = some oj) (hI : Indep ops i j oi oj) (hpj : evalU E callk ops true j st = some pj) (hap : applyU st pj.1 pj.2 = some st1) :
    UFact st oj pj ∧ st1 = ⟨st.n, putD (scrSl (scOb pj.2.ob) st.slots) pj.1 pj.2.v, putOb (scrOb (scOb pj.2.ob) st.objs) pj.2.ob⟩ := by
  have hf := evalU_fact hwf hj hI.allj hpj
  rw [applyU_eq hf] at hap
  obtain ⟨_, hap⟩ := cond_some.1 hap
  injection hap with hap
  rw [scrOb_putOb hf] at hap
  exact ⟨hf, hap.symm⟩
/-- The slots that another operation uses: as they were, but for what is stale. -/
theorem slots_at (hwf : WF st) (hj : nthOp ops j = some oj) (hI : Indep ops i j oi oj) (hpj : evalU E callk ops true j st = some pj) (hap : applyU st pj.1 pj.2 = some st1) :
    ∀ t ∈ usesOf ops i, st1.slots t = scrSl (scOb pj.2.ob) st.slots t := by
  obtain ⟨hf, rfl⟩ := applyU_st hwf hj hI hpj hap
  intro t ht
  rcases putD_cases (scrSl (scOb pj.2.ob) st.slots) pj.1 pj.2.v t with ⟨h, _⟩ | ⟨_, h⟩
  · exact absurd ht (hI.dj t (by rw [← hf.dst]; exact h))
  · exact h
theorem slots_of0 (hwf : WF st) (hi : nthOp ops i = some oi) (hj : nthOp ops j = some oj) (hI : Indep ops i j oi oj) (hpj : evalU E callk ops true j st = some pj) (hap : applyU st pj.1 pj.2 = some st1)
    (hs : ∀ x ∈ scAt st oj, x ∉ xrefsAt st (usesOf ops i)) : ∀ t ∈ usesOf ops i, st1.slots t = st.slots t := by
  intro t ht
  rw [slots_at hwf hj hI hpj hap t ht]
  have hf := (applyU_st hwf hj hI hpj hap).1
  cases hk : scOb pj.2.ob with
  | none => rfl
  | some k =>
    simp only [scrSl]
    cases hst : st.slots t with
    | none => rfl
    | some s =>
      simp only [omap]
      rw [scrub_id (fun hx => hs k (scOb_mem hf hk).1 (mem_xrefsAt.2 ⟨t, ht, s, hst, hx⟩))]
theorem slots_of1 (hwf : WF st) (hi : nthOp ops i = some oi) (hj : nthOp ops j = some oj) (hI : Indep ops i j oi oj) (hpj : evalU E callk ops true j st = some pj) (hap : applyU st pj.1 pj.2 = some st1)
    (hs : ∀ x ∈ scAt st oj, x ∉ xrefsAt st1 (usesOf ops i)) : ∀ t ∈ usesOf ops i, st1.slots t = st.slots t := by
  intro t ht
  have h1 := slots_at hwf hj hI hpj hap t ht
  have hf := (applyU_st hwf hj hI hpj hap).1
  rw [h1]
  cases hk : scOb pj.2.ob with
  | none => rfl
  | some k =>
    rw [hk] at h1
    simp only [scrSl] at h1 ⊢
    cases hst : st.slots t with
    | none => rfl
    | some s =>
      rw [hst] at h1
      simp only [omap] at h1 ⊢
      rw [scrub_id (fun hx => hs k (scOb_mem hf hk).1 (mem_xrefsAt.2 ⟨t, ht, _, h1, by rw [xrefs_scrub]; exact hx⟩))]
/-- The objects that another operation names: as they were, but for what is stale. -/
theorem objs_at (hwf : WF st) (hj : nthOp ops j = some oj) (hI : Indep ops i j oi oj) (hpj : evalU E callk ops true j st = some pj) (hap : applyU st pj.1 pj.2 = some st1)
    (hw : ∀ x ∈ wrAt st oj, x ∉ refsAt st (usesOf ops i)) : ∀ x ∈ refsAt st (usesOf ops i), st1.objs x = scrOb (scOb pj.2.ob) st.objs x := by
  obtain ⟨hf, rfl⟩ := applyU_st hwf hj hI hpj hap
  intro x hx
  simp only
  rcases putOb_cases (scrOb (scOb pj.2.ob) st.objs) pj.2.ob x with ⟨ob, scr, he, h⟩ | h
  · exfalso
    obtain ⟨t, _, s, hs, hr⟩ := mem_refsAt.1 hx
    obtain ⟨ob', hob'⟩ := hwf.slots t s hs x hr
    rcases (hf.ob x ob scr he).kind with ⟨h1, _⟩ | ⟨h1, _⟩
    · rw [h1] at hob'; cases hob'
    · exact hw x h1 hx
  · exact h
theorem box1X_scr (k : Option Nat) {x : Nat} (h : st1.objs x = scrOb k st.objs x) : box1X st1 x = box1X st x := by
  unfold box1X
  rw [h]
  cases k with
  | none => rfl
  | some k =>
    simp only [scrOb]
    cases st.objs x with
    | none => rfl
    | some o =>
      cases o with
      | box u c =>
        cases c with
        | whole d => rfl
        | cells l => simp only [omap, scrubObj, cellX_scrub]
      | _ => rfl
theorem scrubCells_at (k : Nat) (l : List SV) (n : Nat) : (scrubCells k l)[n]? = (l[n]?).map (scrubS k) := scrubCells_get k l n
theorem cell1X_scr (k : Option Nat) {x : Nat} (n : Nat) (h : st1.objs x = scrOb k st.objs x) : cell1X st1 x n = cell1X st x n := by
  unfold cell1X
  rw [h]
  cases k with
  | none => rfl
  | some k =>
    simp only [scrOb]
    cases st.objs x with
    | none => rfl
    | some o =>
      cases o with
      | box u c =>
        cases c with
        | whole d => rfl
        | cells l =>
          simp only [omap, scrubObj, scrubCells_at]
          cases l[n]? with
          | none => rfl
          | some s => simp only [Option.map_some, xrefs_scrub]
      | _ => rfl
theorem foot_same (hwf : WF st) (hi : nthOp ops i = some oi) (hj : nthOp ops j = some oj) (hI : Indep ops i j oi oj) (hpj : evalU E callk ops true j st = some pj) (hap : applyU st pj.1 pj.2 = some st1)
    (hsl : ∀ t ∈ usesOf ops i, st1.slots t = st.slots t) (hw : ∀ x ∈ wrAt st oj, x ∉ refsAt st (usesOf ops i)) : footOf ops i st1 = footOf ops i st := by
  have hob := objs_at hwf hj hI hpj hap hw
  rw [foot_some hi, foot_some hi, refsAt_congr hsl, wrAt_congr hi hsl, xrefsAt_congr hsl, scAt_congr hi hsl]
  have : opX st1 oi (usesOf ops i) = opX st oi (usesOf ops i) := by
    unfold opX
    split
    · have key : ∀ l, (∀ t ∈ l, t ∈ usesOf ops i) → loadXs st1 l = loadXs st l := by
        intro l
        induction l with
        | nil => intro _; rfl
        | cons t r ih =>
          intro hl
          simp only [loadXs, hsl t (hl t List.mem_cons_self), ih (fun u hu => hl u (List.mem_cons_of_mem _ hu))]
          cases hst : st.slots t with
          | none => rfl
          | some s =>
            simp only
            congr 1
            cases s with
            | bptr x u off k =>
              have hx := hob x (mem_refsAt.2 ⟨t, hl t List.mem_cons_self, _, hst, by simp [refsOf, refs0]⟩)
              simp only [loadX, cell1X_scr _ off hx, box1X_scr _ hx]
            | _ => rfl
      exact key _ fun t ht => ht
    · have key : ∀ l, (∀ x ∈ l, x ∈ refsAt st (usesOf ops i)) → boxX st1 l = boxX st l := by
        intro l
        induction l with
        | nil => intro _; rfl
        | cons x r ih =>
          intro hl
          simp only [boxX, box1X_scr _ (hob x (hl x List.mem_cons_self)), ih (fun u hu => hl u (List.mem_cons_of_mem _ hu))]
      rw [refsAt_congr hsl, key _ fun x hx => hx]
  rw [this]

/-- What j does leaves what i does. -/
theorem evalU_frame (hwf : WF st) (hi : nthOp ops i = some oi) (hj : nthOp ops j = some oj) (hI : Indep ops i j oi oj) (hpj : evalU E callk ops true j st = some pj) (hap : applyU st pj.1 pj.2 = some st1)
    (hsl : ∀ t ∈ usesOf ops i, st1.slots t = st.slots t) (hw : ∀ x ∈ wrAt st oj, x ∉ refsAt st (usesOf ops i)) (hs : ∀ x ∈ scAt st oj, x ∉ (footOf ops i st).d) : evalU E callk ops true i st1 = evalU E callk ops true i st := by
  have hob := objs_at hwf hj hI hpj hap hw
  obtain ⟨hf, he⟩ := applyU_st hwf hj hI hpj hap
  refine evalU_congr hi hI.alli hsl ?_ ?_
  · intro d hd
    rw [he]
    simp only [fresh]
    have key : (∃ o, putOb (scrOb (scOb pj.2.ob) st.objs) pj.2.ob d = some o) ↔ ∃ o, st.objs d = some o := by
      rcases putOb_cases (scrOb (scOb pj.2.ob) st.objs) pj.2.ob d with ⟨ob, scr, hx, h⟩ | h
      · rw [h]
        rcases (hf.ob d ob scr hx).kind with ⟨_, h2⟩ | ⟨_, ob0, h2⟩
        · exact absurd rfl (hI.dd d d hd h2)
        · rw [h2]; simp
      · rw [h]; exact scrOb_some _ _ _
    cases h1 : putOb (scrOb (scOb pj.2.ob) st.objs) pj.2.ob d with
    | none =>
      cases h2 : st.objs d with
      | none => rfl
      | some o => obtain ⟨o', h3⟩ := key.2 ⟨o, h2⟩; rw [h1] at h3; cases h3
    | some o =>
      obtain ⟨o', h3⟩ := key.1 ⟨o, h1⟩
      rw [h3]
  · intro hrw t s ht hst
    have hname : ∀ x, x ∈ refsOf s → x ∈ refsAt st (usesOf ops i) := fun x hx => mem_refsAt.2 ⟨t, ht, s, hst, hx⟩
    cases hk : scOb pj.2.ob with
    | none =>
      rw [hk] at hob
      simp only [scrOb] at hob
      refine ⟨fun _ x hx => hob x (hname x hx), fun _ => ?_⟩
      cases s with
      | bptr x u off k => exact .inl (hob x (hname x (by simp [refsOf, refs0])))
      | optr x e n off k => exact .inl (hob x (hname x (by simp [refsOf, refs0])))
      | _ => trivial
    | some k =>
      rw [hk] at hob
      simp only [scrOb] at hob
      have hks := hs k (scOb_mem hf hk).1
      rw [foot_some hi] at hks
      simp only [List.mem_append, not_or] at hks
      obtain ⟨_, hks⟩ := hks
      constructor
      · intro hnl x hx
        rw [hob x (hname x hx)]
        cases hox : st.objs x with
        | none => rfl
        | some o =>
          simp only [omap]
          rw [scrubObj_id]
          intro hm
          refine hks ?_
          unfold opX
          split
          · rename_i h; rw [h] at hnl; cases hnl
          · have : ((opEff oi).reads || (opEff oi).writes) = true := by simpa using hrw
            rw [this]
            simp only [cond_true]
            refine mem_boxX.2 ⟨x, hname x hx, ?_⟩
            unfold box1X
            rw [hox]
            cases o with
            | box u c =>
              cases c with
              | whole d => cases hm
              | cells l => exact hm
            | _ => cases hm
      · intro hld
        cases s with
        | bptr x u off kk =>
          have hx := hob x (hname x (by simp [refsOf, refs0]))
          have hks' : k ∉ loadX st (.bptr x u off kk) := by
            intro hm
            refine hks ?_
            unfold opX
            split
            · exact mem_loadXs.2 ⟨t, ht, _, hst, hm⟩
            · rename_i h
              exfalso
              revert hld
              cases hop : oi.op with
              | load a b => exact absurd hop (h a b)
              | _ => intro h; cases h
          simp only [LoadSame]
          rw [hx]
          cases hox : st.objs x with
          | none => exact .inl rfl
          | some o =>
            simp only [omap]
            cases o with
            | arr _ _ => exact .inl rfl
            | map _ _ => exact .inl rfl
            | box u' c =>
              cases c with
              | whole d => exact .inl rfl
              | cells l =>
                cases hsg : singleK kk with
                | false =>
                  left
                  simp only [loadX, hsg, cond_false, box1X, hox] at hks'
                  simp only [scrubObj, scrubCells_id hks']
                | true =>
                  right
                  simp only [loadX, hsg, cond_true, cell1X, hox] at hks'
                  refine ⟨u', l, scrubCells k l, rfl, rfl, rfl, ?_⟩
                  rw [scrubCells_at]
                  cases hl : l[off]? with
                  | none => rfl
                  | some s' =>
                    rw [hl] at hks'
                    simp only [Option.map_some]
                    rw [scrub_id hks']
        | optr x e n off kk =>
          have hx := hob x (hname x (by simp [refsOf, refs0]))
          simp only [LoadSame]
          rw [hx]
          cases hox : st.objs x with
          | none => exact .inl rfl
          | some o =>
            cases o with
            | arr _ _ => exact .inl rfl
            | map _ _ => exact .inl rfl
            | box u c =>
              right
              refine ⟨⟨u, c, rfl⟩, ?_⟩
              cases c with
              | whole d => exact ⟨u, _, rfl⟩
              | cells l => exact ⟨u, _, rfl⟩
        | _ => trivial
end

theorem put_swap {α : Type} (f : Nat → α) {t u : Nat} (x y : α) (h : t ≠ u) : put (put f t x) u y = put (put f u y) t x := by
  funext k
  simp only [put]
  by_cases h1 : k = t
  · subst h1
    rw [beq_false.2 h, beq_self]; rfl
  · rw [beq_false.2 h1]; rfl

theorem scrSl_comm (a b : Option Nat) (f : Nat → Option SV) : scrSl a (scrSl b f) = scrSl b (scrSl a f) := by
  cases a with
  | none => rfl
  | some a =>
    cases b with
    | none => rfl
    | some b =>
      funext t
      simp only [scrSl]
      cases f t with
      | none => rfl
      | some s => simp only [omap, scrub_comm a b]
theorem scrOb_comm (a b : Option Nat) (f : Nat → Option Obj) : scrOb a (scrOb b f) = scrOb b (scrOb a f) := by
  cases a with
  | none => rfl
  | some a =>
    cases b with
    | none => rfl
    | some b =>
      funext t
      simp only [scrOb]
      cases f t with
      | none => rfl
      | some s => simp only [omap, scrubObj_comm a b]
theorem scrSl_putD {k : Option Nat} {d : Option Nat} {v : SV} (h : ∀ x, k = some x → scrubS x v = v) (f : Nat → Option SV) : scrSl k (putD f d v) = putD (scrSl k f) d v := by
  cases k with
  | none => rfl
  | some k =>
    cases d with
    | none => rfl
    | some d =>
      funext t
      simp only [scrSl, putD, put]
      cases Nat.beq t d with
      | true => simp only [cond_true, omap, h k rfl]
      | false => rfl
theorem scrOb_putO {k : Option Nat} {x : Option (Nat × Obj × Bool)} (h : ∀ a id ob scr, k = some a → x = some (id, ob, scr) → scrubObj a ob = ob) (f : Nat → Option Obj) : scrOb k (putOb f x) = putOb (scrOb k f) x := by
  cases k with
  | none => rfl
  | some k =>
    cases x with
    | none => rfl
    | some x =>
      obtain ⟨id, ob, scr⟩ := x
      funext t
      simp only [scrOb, putOb, put]
      cases Nat.beq t id with
      | true => simp only [cond_true, omap, h k id ob scr rfl rfl]
      | false => rfl

/-- Two operations that do not meet change places. -/
theorem commute (hwf : WF st) {i j : Nat} {oi oj : Oper} (hi : nthOp ops i = some oi) (hj : nthOp ops j = some oj) (hI : Indep ops i j oi oj) {pj pi : Option Nat × Upd} (hpj : evalU E callk ops true j st = some pj) (hapj : applyU st pj.1 pj.2 = some st1)
    (hpi : evalU E callk ops true i st1 = some pi) (hapi : applyU st1 pi.1 pi.2 = some st2) (hd1 : ∀ x ∈ wrAt st oj, x ∉ refsAt st (usesOf ops i)) (hd2 : ∀ x ∈ wrAt st oi, x ∉ refsAt st (usesOf ops j))
    (hs1 : ∀ x ∈ scAt st oj, x ∉ (footOf ops i st).d) (hs2 : ∀ x ∈ scAt st oi, x ∉ (footOf ops j st).d) :
    evalU E callk ops true i st = some pi ∧ ∃ st1', applyU st pi.1 pi.2 = some st1' ∧ evalU E callk ops true j st1' = some pj ∧ applyU st1' pj.1 pj.2 = some st2 := by
  have hx1 : ∀ x ∈ scAt st oj, x ∉ xrefsAt st (usesOf ops i) := fun x hx hm => hs1 x hx (by rw [foot_some hi]; exact List.mem_append_left _ hm)
  have hx2 : ∀ x ∈ scAt st oi, x ∉ xrefsAt st (usesOf ops j) := fun x hx hm => hs2 x hx (by rw [foot_some hj]; exact List.mem_append_left _ hm)
  have e1 := evalU_frame hwf hi hj hI hpj hapj (slots_of0 hwf hi hj hI hpj hapj hx1) hd1 hs1
  rw [e1] at hpi
  have hfj := evalU_fact hwf hj hI.allj hpj
  have hfi := evalU_fact hwf hi hI.alli hpi
  rw [applyU_eq hfj] at hapj
  obtain ⟨dj, hapj⟩ := cond_some.1 hapj
  injection hapj with hapj; subst hapj
  rw [applyU_eq hfi] at hapi
  obtain ⟨di, hapi⟩ := cond_some.1 hapi
  injection hapi with hapi; subst hapi
  have hap' : applyU st pi.1 pi.2 = some ⟨st.n, putD (scrSl (scOb pi.2.ob) st.slots) pi.1 pi.2.v, scrOb (scOb pi.2.ob) (putOb st.objs pi.2.ob)⟩ := by
    rw [applyU_eq hfi]
    simp only at di
    rw [di]; rfl
  -- what one has made the other does not render stale
  have apart : ∀ {a b : Nat} {oa ob' : Oper} {pa pb : Option Nat × Upd}, nthOp ops a = some oa → nthOp ops b = some ob' → UFact st oa pa → UFact st ob' pb → (∀ x ∈ wrAt st oa, x ∉ refsAt st (usesOf ops b)) → (∀ x ∈ scAt st ob', x ∉ (footOf ops a st).d) →
      ∀ k, scOb pb.2.ob = some k → (∀ id ob scr, pa.2.ob = some (id, ob, scr) → id ≠ k) ∧ scrubS k pa.2.v = pa.2.v ∧ ∀ id ob scr, pa.2.ob = some (id, ob, scr) → scrubObj k ob = ob := by
    intro a b oa ob' pa pb ha hb hfa hfb hw hs k hk
    obtain ⟨hk1, e, es, hk2⟩ := scOb_mem hfb hk
    have hkd := hs k hk1
    have hkr := scAt_sub hb hk1
    have hid : ∀ id ob scr, pa.2.ob = some (id, ob, scr) → id ≠ k := by
      intro id ob scr hx e
      subst e
      obtain ⟨t, _, s, hst, hr⟩ := mem_refsAt.1 hkr
      obtain ⟨ob0, hob0⟩ := hwf.slots t s hst _ hr
      rcases (hfa.ob _ _ _ hx).kind with ⟨h1, _⟩ | ⟨h1, _⟩
      · rw [h1] at hob0; cases hob0
      · exact hw _ h1 hkr
    refine ⟨hid, ?_, ?_⟩
    · unfold scrubS
      cases hn : pa.2.v.names k with
      | false => rfl
      | true =>
        exfalso
        rcases hfa.vdeep k (memN_iff.1 hn) with h | ⟨x, hx⟩
        · exact hkd (h.foot ha)
        · exact hid k x.1 x.2 hx rfl
    · intro id ob scr hx
      refine scrubObj_id fun hm => ?_
      rcases (hfa.ob id ob scr hx).deep k hm with h | h
      · exact hid id ob scr hx h.symm
      · exact hkd (h.foot ha)
  have hij := apart hj hi hfj hfi hd1 hs2
  have hji := apart hi hj hfi hfj hd2 hs1
  have hsl' := slots_of0 hwf hj hi hI.symm hpi hap' hx2
  refine ⟨hpi, _, hap', ?_, ?_⟩
  · rw [evalU_frame hwf hj hi hI.symm hpi hap' hsl' hd2 hs2]; exact hpj
  · rw [applyU_eq hfj]
    simp only
    rw [dj]
    simp only [cond_true, Option.some.injEq, St.mk.injEq, true_and]
    constructor
    · rw [scrSl_putD (fun x hx => (hji x hx).2.1), scrSl_putD (fun x hx => (hij x hx).2.1), scrSl_comm]
      cases hd : pi.1 with
      | none => rfl
      | some d =>
        cases hd' : pj.1 with
        | none => rfl
        | some d' => exact put_swap _ _ _ (hI.dd d d' (by rw [← hfi.dst]; exact hd) (by rw [← hfj.dst]; exact hd'))
    · rw [scrOb_putOb hfi, scrOb_putOb hfj, scrOb_putOb hfi, scrOb_putOb hfj]
      rw [scrOb_putO (fun a id ob scr ha hx => (hji a ha).2.2 id ob scr hx), scrOb_putO (fun a id ob scr ha hx => (hij a ha).2.2 id ob scr hx), scrOb_comm]
      cases hx : pi.2.ob with
      | none => rfl
      | some x =>
        cases hy : pj.2.ob with
        | none => rfl
        | some y =>
          obtain ⟨id, ob, scr⟩ := x
          obtain ⟨id', ob', scr'⟩ := y
          refine put_swap _ _ _ (fun e => ?_)
          subst e
          rcases (hfi.ob id ob scr hx).kind with ⟨h1, h2⟩ | ⟨h1, ob0, h2⟩ <;> rcases (hfj.ob id ob' scr' hy).kind with ⟨h3, h4⟩ | ⟨h3, ob1, h4⟩
          · exact hI.dd id id h2 h4 rfl
          · rw [h1] at h4; cases h4
          · rw [h3] at h2; cases h2
          · exact hd1 id h3 (wrAt_sub hi h1)

theorem apart_iff {f g : Foot} : f.apart g = true ↔ ((∀ x ∈ f.w, x ∉ g.r) ∧ ∀ x ∈ g.w, x ∉ f.r) ∧ ((∀ x ∈ f.s, x ∉ g.d) ∧ ∀ x ∈ g.s, x ∉ f.d) := by
  simp only [Foot.apart, Bool.and_eq_true, disjL_iff]
/-- What is asked of an operation, those that went ahead being given. -/
theorem pairOk_iff {i : Nat} {f : Foot} {log : List (Nat × Foot)} : pairOk ops i f log = true ↔ ∀ p ∈ log, p.2.apart f = true ∨ (p.1 ∈ (ancs ops).getD i [] ∨ i ∈ (ancs ops).getD p.1 []) := by
  induction log with
  | nil => simp [pairOk]
  | cons p r ih =>
    obtain ⟨j, g⟩ := p
    simp only [pairOk, List.forall_mem_cons]
    cases h : (g.apart f || (memN j ((ancs ops).getD i []) || memN i ((ancs ops).getD j []))) with
    | true =>
      simp only [cond_true, ih]
      simp only [Bool.or_eq_true, memN_iff] at h
      exact ⟨fun q => ⟨h, q⟩, fun q => q.2⟩
    | false =>
      simp only [cond_false]
      have : ¬ (g.apart f = true ∨ (j ∈ (ancs ops).getD i [] ∨ i ∈ (ancs ops).getD j [])) := by
        intro hh
        rw [← memN_iff, ← memN_iff, ← Bool.or_eq_true, ← Bool.or_eq_true, h] at hh
        cases hh
      simp only [this, false_and]
      simp

theorem opsD_log {α : Type} {K : St → Option α} : ∀ (l : List Nat) (log log' : List (Nat × Foot)) (st : St), (∀ p, p ∈ log' → p ∈ log) → ∀ {r}, opsD E callk ops l log st K = some r → opsD E callk ops l log' st K = some r := by
  intro l
  induction l with
  | nil => intro log log' st _ r h; exact h
  | cons i l ih =>
    intro log log' st hsub r h
    simp only [opsD] at h ⊢
    cases hb : (cond (isNilL l) (lastOf ops i) false) with
    | true =>
      rw [hb] at h
      simp only [cond_true] at h ⊢
      cases hl : l with
      | nil => rw [hl] at h; exact h
      | cons a b => rw [hl] at hb; cases hb
    | false =>
    rw [hb] at h
    simp only [cond_false] at h ⊢
    obtain ⟨hp, h⟩ := cond_some.1 h
    have hp' : pairOk ops i (footOf ops i st) log' = true := pairOk_iff.2 fun p hm => pairOk_iff.1 hp p (hsub p hm)
    rw [hp', cond_true]
    rw [opK_eqT] at h ⊢
    obtain ⟨pi, h1, h⟩ := opt_some.1 h
    obtain ⟨st1, h2, h⟩ := opt_some.1 h
    rw [h1, opt_val, h2, opt_val]
    refine ih _ _ st1 (fun p hm => ?_) h
    rcases List.mem_cons.1 hm with rfl | hm
    · exact List.mem_cons_self
    · exact List.mem_cons_of_mem _ (hsub p hm)

theorem allAnc_spec {l : List Nat} : ∀ {n : Nat}, allAnc l n = true → ∀ j, j < n → j ∈ l := by
  intro n
  induction n with
  | zero => intro _ j hj; omega
  | succ n ih =>
    intro h j hj
    obtain ⟨h1, h2⟩ := (show memN n l = true ∧ allAnc l n = true by
      simp only [allAnc] at h
      cases hm : memN n l with
      | true => rw [hm] at h; exact ⟨rfl, h⟩
      | false => rw [hm] at h; cases h)
    by_cases e : j = n
    · rw [e]; exact memN_iff.1 h1
    · exact ih h2 j (by omega)
theorem lastOf_spec {i : Nat} (h : lastOf ops i = true) : i + 1 = ops.length ∧ ∀ j, j < i → j ∈ (ancs ops).getD i [] := by
  unfold lastOf at h
  cases hb : Nat.beq (i + 1) ops.length with
  | false => rw [hb] at h; cases h
  | true => rw [hb] at h; exact ⟨Nat.eq_of_beq_eq_true hb, allAnc_spec h⟩
theorem lastOf_f1 {i j : Nat} (hj : j < i) (h : j ∉ (ancs ops).getD i []) : lastOf ops i = false := by
  cases hl : lastOf ops i with
  | false => rfl
  | true => exact absurd ((lastOf_spec hl).2 j hj) h
theorem lastOf_f2 {i j : Nat} {o : Oper} (hj : j < i) (hi : nthOp ops i = some o) : lastOf ops j = false := by
  cases hl : lastOf ops j with
  | false => rfl
  | true => have := (lastOf_spec hl).1; have := nthOp_lt hi; omega
theorem last_f {α : Type} {l : List α} {b : Bool} (h : b = false) : cond (isNilL l) b false = false := by
  subst h; cases isNilL l <;> rfl
/-- An operation goes ahead of those it does not meet. -/
theorem front {α : Type} {K : St → Option α} {r : α} {i : Nat} {oi : Oper} (hi : nthOp ops i = some oi) {l2 : List Nat} : ∀ (l1 : List Nat) (log : List (Nat × Foot)) (st : St), WF st → (∀ j ∈ l1, ∃ oj, nthOp ops j = some oj ∧ Indep ops i j oi oj ∧ j ∉ (ancs ops).getD i [] ∧ i ∉ (ancs ops).getD j [] ∧ j < i) →
    opsD E callk ops (l1 ++ i :: l2) log st K = some r → opsD E callk ops (i :: (l1 ++ l2)) log st K = some r := by
  intro l1
  induction l1 with
  | nil => intro log st _ _ h; exact h
  | cons j l1 ih =>
    intro log st hwf hl h
    obtain ⟨oj, hj, hI, hn1, hn2, hji⟩ := hl j List.mem_cons_self
    have q1 : lastOf ops i = false := lastOf_f1 hji hn1
    have q2 : lastOf ops j = false := lastOf_f2 hji hi
    simp only [List.cons_append, opsD, opK_eqT, last_f q1, last_f q2, cond_false] at h ⊢
    obtain ⟨hok, h⟩ := cond_some.1 h
    obtain ⟨pj, hpj, h⟩ := opt_some.1 h
    obtain ⟨st1, hapj, h⟩ := opt_some.1 h
    have hwf1 : WF st1 := applyU_wf hwf (evalU_fact hwf hj hI.allj hpj) hapj
    have h2 := ih _ st1 hwf1 (fun k hk => hl k (List.mem_cons_of_mem _ hk)) h
    simp only [opsD, opK_eqT, last_f q1, cond_false] at h2
    obtain ⟨hok2, h2⟩ := cond_some.1 h2
    obtain ⟨pi, hpi, h2⟩ := opt_some.1 h2
    obtain ⟨st2, hapi, h2⟩ := opt_some.1 h2
    have hpair : (footOf ops j st).apart (footOf ops i st1) = true := by
      rcases pairOk_iff.1 hok2 _ List.mem_cons_self with h | h | h
      · exact h
      · exact absurd h hn1
      · exact absurd h hn2
    obtain ⟨⟨q1, q2⟩, q3, q4⟩ := apart_iff.1 hpair
    have fj := foot_some hj st
    have hx1 : ∀ x ∈ scAt st oj, x ∉ xrefsAt st1 (usesOf ops i) := fun x hx hm => q3 x (by rw [fj]; exact hx) (by rw [foot_some hi]; exact List.mem_append_left _ hm)
    have hsl := slots_of1 hwf hi hj hI hpj hapj hx1
    have hd1 : ∀ x ∈ wrAt st oj, x ∉ refsAt st (usesOf ops i) := fun x hx hm => q1 x (by rw [fj]; exact hx) (by rw [foot_some hi, refsAt_congr hsl]; exact hm)
    have hfi := foot_same hwf hi hj hI hpj hapj hsl hd1
    rw [hfi] at hok2 h2 q1 q2 q3 q4
    have fi := foot_some hi st
    have hd2 : ∀ x ∈ wrAt st oi, x ∉ refsAt st (usesOf ops j) := fun x hx hm => q2 x (by rw [fi]; exact hx) (by rw [fj]; exact hm)
    have hs1 : ∀ x ∈ scAt st oj, x ∉ (footOf ops i st).d := fun x hx => q3 x (by rw [fj]; exact hx)
    have hs2 : ∀ x ∈ scAt st oi, x ∉ (footOf ops j st).d := fun x hx => q4 x (by rw [fi]; exact hx)
    obtain ⟨c1, st1', c2, c3, c4⟩ := commute hwf hi hj hI hpj hapj hpi hapi hd1 hd2 hs1 hs2
    have hok1 : pairOk ops i (footOf ops i st) log = true := pairOk_iff.2 fun p hm => pairOk_iff.1 hok2 p (List.mem_cons_of_mem _ hm)
    have hx2 : ∀ x ∈ scAt st oi, x ∉ xrefsAt st (usesOf ops j) := fun x hx hm => hs2 x hx (by rw [fj]; exact List.mem_append_left _ hm)
    have hsl' := slots_of0 hwf hj hi hI.symm c1 c2 hx2
    have hfj := foot_same hwf hj hi hI.symm c1 c2 hsl' hd2
    rw [hok1, cond_true, c1, opt_val, c2, opt_val, hfj]
    have hok3 : pairOk ops j (footOf ops j st) ((i, footOf ops i st) :: log) = true := by
      refine pairOk_iff.2 fun p hm => ?_
      rcases List.mem_cons.1 hm with rfl | hm
      · exact .inl (apart_iff.2 ⟨⟨q2, q1⟩, q4, q3⟩)
      · exact pairOk_iff.1 hok p hm
    rw [hok3, cond_true, c3, opt_val, c4, opt_val]
    refine opsD_log _ _ _ _ (fun p hm => ?_) h2
    rcases List.mem_cons.1 hm with rfl | hm
    · exact List.mem_cons_of_mem _ List.mem_cons_self
    · rcases List.mem_cons.1 hm with rfl | hm
      · exact List.mem_cons_self
      · exact List.mem_cons_of_mem _ (List.mem_cons_of_mem _ hm)

/-- What lies ahead of an operation has been done, where its edges have. -/
theorem anc_in {S : Nat → Prop} (hS : ∀ k o, S k → nthOp ops k = some o → ∀ e ∈ anyEdges o, S e) : ∀ (rest pre : List Oper) (dn : List (List Nat)), ops = pre ++ rest → dn.length = pre.length →
    (∀ k o, nthOp ops k = some o → (∀ e ∈ anyEdges o, S e) → ∀ x ∈ dn.getD k [], S x) → ∀ k o, nthOp ops k = some o → (∀ e ∈ anyEdges o, S e) → ∀ x ∈ (ancBuild dn rest).getD k [], S x := by
  intro rest
  induction rest with
  | nil => intro pre dn _ _ h; exact h
  | cons o rest ih =>
    intro pre dn he hl h
    simp only [ancBuild]
    refine ih (pre ++ [o]) _ (by simp [he]) (by simp [hl]) ?_
    intro k ok hk hedge x hx
    rw [List.getD_eq_getElem?_getD] at hx
    by_cases h1 : k < dn.length
    · rw [List.getElem?_append_left h1] at hx
      exact h k ok hk hedge x (by rw [List.getD_eq_getElem?_getD]; exact hx)
    · by_cases h2 : k = dn.length
      · subst h2
        have : ok = o := by
          rw [nthOp_get, he, hl] at hk
          simp at hk; exact hk.symm
        subst this
        simp only [List.length_append, List.getElem?_concat_length, Option.getD_some, List.mem_append, List.mem_flatMap] at hx
        rcases hx with hx | ⟨e, he', hx⟩
        · exact hedge x hx
        · have hSe := hedge e he'
          cases hoe : nthOp ops e with
          | none =>
            exfalso
            rw [nthOp_get] at hoe
            have hge := List.getElem?_eq_none_iff.1 hoe
            rw [List.getD_eq_getElem?_getD, List.getElem?_eq_none (by rw [he] at hge; simp at hge; omega)] at hx
            cases hx
          | some oe => exact h e oe hoe (hS e oe hSe hoe) x hx
      · rw [List.getElem?_eq_none (by simp; omega)] at hx
        cases hx

end
end Go.Proofs.YtcmeincdmphaoaaDoor.DS

namespace Go.Proofs.YtcmeincdmphaoaaDoor.DS

section
variable {P : Program} {E : Env} {X : Nat → Prop} {w0 : World} {Mx : Mem} {pv : Nat → Option Value} {callk : Nat → List D → R}

def remOf (n : Nat) (listed : Array Bool) : List Nat := (List.range n).filter fun i => !listed.getD i true

theorem mem_remOf {n : Nat} {listed : Array Bool} {i : Nat} (hs : listed.size = n) : i ∈ remOf n listed ↔ i < n ∧ listed.getD i false = false := by
  unfold remOf
  simp only [List.mem_filter, List.mem_range, Bool.not_eq_true']
  constructor
  · rintro ⟨h1, h2⟩
    refine ⟨h1, ?_⟩
    simp only [Array.getD_eq_getD_getElem?] at h2 ⊢
    rw [Array.getElem?_eq_getElem (by omega)] at h2 ⊢
    exact h2
  · rintro ⟨h1, h2⟩
    refine ⟨h1, ?_⟩
    simp only [Array.getD_eq_getD_getElem?] at h2 ⊢
    rw [Array.getElem?_eq_getElem (by omega)] at h2 ⊢
    exact h2
theorem getD_set {listed : Array Bool} {i k : Nat} (h : i < listed.size) (d : Bool) : (listed.setIfInBounds i true).getD k d = if k = i then true else listed.getD k d := by
  simp only [Array.getD_eq_getD_getElem?, Array.getElem?_setIfInBounds]
  by_cases e : i = k
  · subst e; simp [h]
  · have e2 : ¬ k = i := fun h => e h.symm
    simp [e, e2]

theorem mem_anyEdges {o : Oper} {e : Nat} : e ∈ anyEdges o ↔ ∃ x ∈ o.after.toList, Region.binds .any x = true ∧ x.on = e := by
  simp [anyEdges, and_assoc]
theorem mem_ready {ops : Array Oper} {listed : Array Bool} (hs : listed.size = ops.size) {i : Nat} : i ∈ Region.ready .any ops listed ↔ i ∈ remOf ops.size listed ∧ ∃ o, nthOp ops.toList i = some o ∧ ∀ e ∈ anyEdges o, listed.getD e false = true := by
  unfold Region.ready remOf
  simp only [List.mem_filter, List.mem_range, Bool.and_eq_true]
  constructor
  · rintro ⟨h1, h2, h3⟩
    refine ⟨⟨h1, h2⟩, ops[i], by rw [nthOp_toList]; simp [h1], ?_⟩
    rw [Array.getElem?_eq_getElem h1] at h3
    simp only [Option.map_some, Option.getD_some, Array.all_eq_true_iff_forall_mem] at h3
    intro e he
    obtain ⟨x, hx, hb, rfl⟩ := mem_anyEdges.1 he
    have := h3 x (Array.mem_toList_iff.1 hx)
    rw [hb] at this
    simpa using this
  · rintro ⟨⟨h1, h2⟩, o, ho, hedge⟩
    refine ⟨h1, h2, ?_⟩
    rw [nthOp_toList] at ho
    rw [ho]
    simp only [Option.map_some, Option.getD_some, Array.all_eq_true_iff_forall_mem]
    intro x hx
    cases hb : Region.binds .any x with
    | false => rfl
    | true =>
      have := hedge x.on (mem_anyEdges.2 ⟨x, Array.mem_toList_iff.2 hx, hb, rfl⟩)
      rw [this]; rfl

theorem rem_split {n : Nat} {listed : Array Bool} (hs : listed.size = n) {i : Nat} (hi : i ∈ remOf n listed) : ∃ l1 l2, remOf n listed = l1 ++ i :: l2 ∧ (∀ j ∈ l1, j < i ∧ j ∈ remOf n listed) ∧ remOf n (listed.setIfInBounds i true) = l1 ++ l2 := by
  obtain ⟨l1, l2, hl⟩ := List.append_of_mem hi
  have hp : (remOf n listed).Pairwise (· < ·) := (List.pairwise_lt_range).filter _
  have hin := (mem_remOf hs).1 hi
  rw [hl] at hp
  obtain ⟨p1, p2, p3⟩ := List.pairwise_append.1 hp
  have p4 := (List.pairwise_cons.1 p2).1
  refine ⟨l1, l2, hl, fun j hj => ⟨p3 j hj i List.mem_cons_self, by rw [hl]; exact List.mem_append_left _ hj⟩, ?_⟩
  have : remOf n (listed.setIfInBounds i true) = (remOf n listed).filter (fun k => !(Nat.beq k i)) := by
    unfold remOf
    rw [List.filter_filter]
    apply List.filter_congr
    intro k hk
    rw [getD_set (by omega)]
    by_cases e : k = i
    · subst e; simp [beq_self]
    · simp [e, beq_false.2 e]
  rw [this, hl, List.filter_append, List.filter_cons]
  simp only [beq_self, Bool.not_true]
  have f1 : l1.filter (fun k => !(Nat.beq k i)) = l1 := List.filter_eq_self.2 fun k hk => by
    have := p3 k hk i List.mem_cons_self
    rw [beq_false.2 (by omega)]; rfl
  have f2 : l2.filter (fun k => !(Nat.beq k i)) = l2 := List.filter_eq_self.2 fun k hk => by
    have := p4 k hk
    rw [beq_false.2 (by omega)]; rfl
  rw [f1, f2]; rfl

theorem edges_spec {ops : List Oper} (h : edgesOk ops = true) {i : Nat} {o : Oper} (hi : nthOp ops i = some o) {e : Nat} (he : e ∈ anyEdges o) : e < i := by
  have := allBelow_spec h i (nthOp_lt hi)
  rw [hi] at this
  exact Nat.le_of_ble_eq_true (List.all_eq_true.1 this e he)

theorem anc_lt {ops : List Oper} (h : edgesOk ops = true) {j : Nat} {o : Oper} (hj : nthOp ops j = some o) : ∀ x ∈ (ancs ops).getD j [], x < j := by
  have := anc_in (ops := ops) (S := fun k => k < j) (fun k o hk ho e he => by have := edges_spec h ho he; omega) ops [] [] rfl rfl (fun k o _ _ x hx => by simp at hx) j o hj (fun e he => edges_spec h hj he)
  exact this

theorem guards_weak {ops : List Oper} (h : guardsOk ops true = true) : guardsOk ops false = true := by
  have key : ∀ n : Nat, ∀ p q : Nat → Bool, (∀ i, p i = true → q i = true) → allBelow n p = true → allBelow n q = true := by
    intro n p q hpq
    induction n with
    | zero => intro _; rfl
    | succ n ih =>
      intro h
      simp only [allBelow] at h ⊢
      cases hp : p n with
      | false => rw [hp] at h; cases h
      | true => rw [hp] at h; rw [hpq n hp]; exact ih h
  refine key _ _ _ (fun i hi => ?_) h
  cases hn : nthOp ops i with
  | none => rw [hn] at hi; cases hi
  | some o =>
    rw [hn] at hi
    simp only at hi ⊢
    cases hgu : o.guard with
    | none => rfl
    | some g =>
      rw [hgu] at hi
      simp only [Bool.and_eq_true] at hi ⊢
      exact ⟨hi.1, hi.2.1, by simp⟩
theorem any_sound {α : Type} (hT : TTok P E.tt) {W0 : World} (hS : Same W0 w0) (hX : ∀ b, X b → W0.heap.size ≤ b) (hcall : CallOK P E W0 callk) {ops : Array Oper} (hn : nodupN (dstsOf ops.toList) = true) (hg : guardsOk ops.toList true = true) (hed : edgesOk ops.toList = true) (hpr : pairsOk ops.toList (ancs ops.toList) = true) (hpn : ∀ i o, nthOp ops.toList i = some o → ∀ t, o.dst = some t → pv t = none)
    {Q : Exit → Act → World → Prop} {K : St → Option α} {r : α} (hQ : ∀ st' a' w', RI E X w0 Mx pv ops.toList (fun k => k < ops.size) st' a' w' → K st' = some r → Q .normal a' w') :
    ∀ fuel listed log st a w, listed.size = ops.size → (remOf ops.size listed).length ≤ fuel → (∀ k o, listed.getD k false = true → nthOp ops.toList k = some o → ∀ e ∈ anyEdges o, listed.getD e false = true) →
    RI E X w0 Mx pv ops.toList (fun k => listed.getD k false = true) st a w → opsD E callk ops.toList (remOf ops.size listed) log st K = some r → wpAny P .any ops Q fuel listed a w := by
  have hend : ∀ (listed : Array Bool) log st a w, listed.size = ops.size → remOf ops.size listed = [] → RI E X w0 Mx pv ops.toList (fun k => listed.getD k false = true) st a w → opsD E callk ops.toList (remOf ops.size listed) log st K = some r → Q .normal a w := by
    intro listed log st a w hs he h hk
    rw [he] at hk
    refine hQ st a w (h.congr fun k => ?_) hk
    constructor
    · intro hk
      rw [Array.getD_eq_getD_getElem?] at hk
      by_cases h1 : k < listed.size
      · omega
      · rw [Array.getElem?_eq_none (by omega)] at hk; cases hk
    · intro hk
      cases hl : listed.getD k false with
      | true => rfl
      | false =>
        have := (mem_remOf hs).2 ⟨hk, hl⟩
        rw [he] at this; cases this
  have hready : ∀ (listed : Array Bool), listed.size = ops.size → Region.ready .any ops listed = [] → remOf ops.size listed = [] := by
    intro listed hs hr
    cases hl : remOf ops.size listed with
    | nil => rfl
    | cons m rest =>
      exfalso
      have hm : m ∈ remOf ops.size listed := by rw [hl]; exact List.mem_cons_self
      have hp : (remOf ops.size listed).Pairwise (· < ·) := (List.pairwise_lt_range).filter _
      rw [hl] at hp
      have hmin := (List.pairwise_cons.1 hp).1
      have hmlt := ((mem_remOf hs).1 hm).1
      have ho : nthOp ops.toList m = some ops[m] := by rw [nthOp_toList]; simp [hmlt]
      have : m ∈ Region.ready .any ops listed := by
        refine (mem_ready hs).2 ⟨hm, ops[m], ho, fun e he => ?_⟩
        have hlt := edges_spec hed ho he
        cases hle : listed.getD e false with
        | true => rfl
        | false =>
          have := (mem_remOf hs).2 ⟨by omega, hle⟩
          rw [hl] at this
          rcases List.mem_cons.1 this with h | h
          · omega
          · have := hmin e h; omega
      rw [hr] at this; cases this
  intro fuel
  induction fuel with
  | zero =>
    intro listed log st a w hs hlen hclo h hk
    have he : remOf ops.size listed = [] := List.eq_nil_of_length_eq_zero (by omega)
    refine ⟨?_, hend listed log st a w hs he h hk⟩
    cases hr : Region.ready .any ops listed with
    | nil => rfl
    | cons x xs =>
      have : x ∈ Region.ready .any ops listed := by rw [hr]; exact List.mem_cons_self
      have := ((mem_ready hs).1 this).1
      rw [he] at this; cases this
  | succ fuel ih =>
    intro listed log st a w hs hlen hclo h hk
    refine ⟨fun hr => hend listed log st a w hs (hready listed hs hr) h hk, fun i hi => ?_⟩
    obtain ⟨hrem, o, ho, hedge⟩ := (mem_ready hs).1 hi
    obtain ⟨hil, hiu⟩ := (mem_remOf hs).1 hrem
    obtain ⟨l1, l2, hl, hl1, hset⟩ := rem_split hs hrem
    have hk' := hk
    rw [hl] at hk'
    have hind : ∀ j ∈ l1, ∃ oj, nthOp ops.toList j = some oj ∧ Indep ops.toList i j o oj ∧ j ∉ (ancs ops.toList).getD i [] ∧ i ∉ (ancs ops.toList).getD j [] ∧ j < i := by
      intro j hj
      obtain ⟨hji, hjr⟩ := hl1 j hj
      obtain ⟨hjl, hju⟩ := (mem_remOf hs).1 hjr
      have hoj : nthOp ops.toList j = some ops[j] := by rw [nthOp_toList]; simp [hjl]
      have hanc : ∀ x ∈ (ancs ops.toList).getD i [], listed.getD x false = true := anc_in (ops := ops.toList) (S := fun k => listed.getD k false = true) (fun k o h1 h2 => hclo k o h1 h2) ops.toList [] [] rfl rfl (fun k o _ _ x hx => by simp at hx) i o ho hedge
      have hnj : j ∉ (ancs ops.toList).getD i [] := fun h => by have := hanc j h; rw [hju] at this; cases this
      have hni : i ∉ (ancs ops.toList).getD j [] := fun h => by have := anc_lt hed hoj i h; omega
      refine ⟨ops[j], hoj, ?_, hnj, hni, hji⟩
      have hpair := allBelow_spec (allBelow_spec hpr i (by simpa using hil)) j hji
      rcases Bool.or_eq_true _ _ ▸ hpair with hp | hp
      · exfalso
        exact hnj (memN_iff.1 hp)
      · exact (indep_spec hoj ho hp).symm
    have hfr := front ho l1 log st h.wf hind hk'
    have hgd' : ∀ j w, o.guard = some (j, w) → listed.getD j false = true := fun j w hgd => by
      obtain ⟨_, _, _, _, _, _, he⟩ := guards_spec hg ho hgd
      exact hedge j (he rfl)
    have hnext : ∀ st' log' a' w', opsD E callk ops.toList (l1 ++ l2) log' st' K = some r → RI E X w0 Mx pv ops.toList (fun k => listed.getD k false = true ∨ k = i) st' a' w' → wpAny P .any ops Q fuel (listed.setIfInBounds i true) a' w' := by
      intro st' log' a' w' hfr h'
      refine ih (listed.setIfInBounds i true) log' st' a' w' (by simp [hs]) ?_ ?_ (h'.congr fun k => ?_) (by rw [hset]; exact hfr)
      · rw [hset]; rw [hl] at hlen; simp at hlen ⊢; omega
      · intro k ok hk1 hok e he
        rw [getD_set (by omega)] at hk1 ⊢
        by_cases e1 : e = i
        · simp [e1]
        · rw [if_neg e1]
          by_cases e2 : k = i
          · subst e2; rw [ho] at hok; injection hok with hok; subst hok; exact hedge e he
          · rw [if_neg e2] at hk1; exact hclo k ok hk1 hok e he
      · rw [getD_set (by omega)]
        by_cases e : k = i
        · simp [e]
        · simp [e]
    simp only [opsD] at hfr
    cases hlast : (cond (isNilL (l1 ++ l2)) (lastOf ops.toList i) false) with
    | false =>
      rw [hlast] at hfr
      simp only [cond_false, opK_eqT] at hfr
      obtain ⟨_, hfr⟩ := cond_some.1 hfr
      obtain ⟨p, hp, hfr⟩ := opt_some.1 hfr
      obtain ⟨st', hu, hfr⟩ := opt_some.1 hfr
      exact op_sound hT hS hX hcall hn hg ho (by simp only [hiu]; decide) hgd' (hpn _ _ ho) h hp hu fun a' w' h' => hnext st' _ a' w' hfr h'
    | true =>
      rw [hlast] at hfr
      simp only [cond_true] at hfr
      have hg' : guardsOk ops.toList false = true := guards_weak hg
      cases hH : isH E ops.toList false i st with
      | false =>
        rw [opK_eq _ _ _ _ _ _ _ (.inr hH)] at hfr
        obtain ⟨p, hp, hfr⟩ := opt_some.1 hfr
        obtain ⟨st', hu, hfr⟩ := opt_some.1 hfr
        exact op_sound hT hS hX hcall hn hg' ho (by simp only [hiu]; decide) hgd' (hpn _ _ ho) h hp hu fun a' w' h' => hnext st' _ a' w' hfr h'
      | true =>
        exact hopG_sound hT hS hX hcall hn hg' ho (by simp only [hiu]; decide) hgd' (hpn _ _ ho) h rfl hH hfr fun st' a' w' hk' h' => hnext st' _ a' w' hk' h'

/-- How state and memory stand between regions. -/
structure SI (E : Env) (X : Nat → Prop) (w0 : World) (Mx : Mem) (pv : Nat → Option Value) (st : St) (a : Act) (w : World) : Prop where
  ex : ∃ ι M, HRel E.tt X w0 Mx ι M st.objs w ∧ ∀ t s, st.slots t = some s → SVRel E.tt ι M s (a.eval (.tmp t))
  wf : WF st
  size : a.tmps.size = st.n
  defers : a.defers = []
  pin : ∀ p v, pv p = some v → a.eval (.tmp p) = v

theorem dropGuarded_spec : ∀ (ops : List Oper) (f : Nat → Option SV) (t : Nat) (s : SV), dropGuarded ops f t = some s → f t = some s ∧ ∀ (o : Oper), o ∈ ops → o.dst = some t → o.guard = none := by
  intro ops
  induction ops with
  | nil => intro f t s h; exact ⟨h, fun o ho => by cases ho⟩
  | cons o r ih =>
    intro f t s h
    have key : ∀ f', dropGuarded r f' t = some s → f' = f → (o.dst = some t → o.guard = none) → f t = some s ∧ ∀ (o' : Oper), o' ∈ o :: r → o'.dst = some t → o'.guard = none := by
      intro f' h' e ho
      subst e
      obtain ⟨h1, h2⟩ := ih f' t s h'
      refine ⟨h1, fun o' ho' hd => ?_⟩
      rcases List.mem_cons.1 ho' with rfl | ho'
      · exact ho hd
      · exact h2 o' ho' hd
    simp only [dropGuarded] at h
    cases hg : o.guard with
    | none => rw [hg] at h; exact key f h rfl (fun _ => hg)
    | some g =>
      cases hu : o.dst with
      | none => rw [hg, hu] at h; exact key f h rfl (fun e => by rw [hu] at e; cases e)
      | some u =>
        rw [hg, hu] at h
        simp only at h
        by_cases e : t = u
        · subst e; rw [put_same] at h; cases h
        · rw [put_other _ _ _ e] at h
          refine key f h rfl (fun e2 => ?_)
          rw [hu] at e2; injection e2 with e2; exact absurd e2.symm e

theorem RI.of_si {ops : List Oper} {st : St} {a : Act} {w : World} (h : SI E X w0 Mx pv st a w) : RI E X w0 Mx pv ops (fun _ => False) st a w := by
  obtain ⟨⟨ι, M, H, hs⟩, hwf, hsz, hdf, hpin⟩ := h
  exact ⟨⟨ι, M, H, fun t s ht _ => hs t s ht⟩, fun i o t b h => h.elim, fun i o j w h => h.elim, hwf, hsz, hdf, hpin⟩
theorem RI.to_si {ops : List Oper} {done : Nat → Prop} {st : St} {a : Act} {w : World} (h : RI E X w0 Mx pv ops done st a w) : SI E X w0 Mx pv (endRegion ops st) a w := by
  obtain ⟨⟨ι, M, H, hs⟩, hgi, hcl, hwf, hsz, hdf, hpin⟩ := h
  refine ⟨⟨ι, M, H, fun t s ht => ?_⟩, ⟨?_, hwf.cells⟩, hsz, hdf, hpin⟩
  · obtain ⟨h1, h2⟩ := dropGuarded_spec ops st.slots t s ht
    refine hs t s h1 fun i o _ hi hd => ?_
    rw [chain_none hi (h2 o (by rw [nthOp_get] at hi; exact List.mem_of_getElem? hi) hd)]
    intro p hp; cases hp
  · intro t s ht i hi
    exact hwf.slots t s (dropGuarded_spec ops st.slots t s ht).1 i hi

/-- A region. -/
theorem region_sound {α : Type} (hm : P.follows .mixedOrders = true) (hT : TTok P E.tt) {W0 : World} (hS : Same W0 w0) (hX : ∀ b, X b → W0.heap.size ≤ b) (hcall : CallOK P E W0 callk) {id : Nat} {ops : Array Oper} {draw : Bool} (hok : okRegion ops.toList draw = true) (hpn : ∀ i o, nthOp ops.toList i = some o → ∀ t, o.dst = some t → pv t = none) {Q : Exit → Act → World → Prop} {K : St → Option α} {r : α}
    (hQ : ∀ st' a' w', SI E X w0 Mx pv (endRegion ops.toList st') a' w' → K st' = some r → Q .normal a' w') {st : St} {a : Act} {w : World} (h : SI E X w0 Mx pv st a w) (hk : cond draw (opsD E callk ops.toList (upFrom 0 ops.size) [] st K) (opsK E callk ops.toList false (upFrom 0 ops.size) st K) = some r) :
    (Code.region id ops draw).wp P Q a w := by
  unfold okRegion at hok
  simp only [Bool.and_eq_true, Bool.or_eq_true, Bool.not_eq_true'] at hok
  obtain ⟨hn, hg, hd⟩ := hok
  cases draw with
  | false =>
    apply wp_region
    rw [List.range_eq_range']
    refine ops_sound hT hS hX hcall hn hg hpn (fun st' a' w' h' hk' => hQ st' a' w' h'.to_si hk') ops.size 0 st a w (by omega) ((RI.of_si h).congr fun k => ⟨fun h => h.elim, fun h => absurd h (Nat.not_lt_zero _)⟩) hk
  | true =>
    rcases hd with hd | ⟨hed, hpr⟩
    · cases hd
    apply wp_region_any hm
    have hrem : remOf ops.size (Array.replicate ops.size false) = upFrom 0 ops.size := by
      have h1 : remOf ops.size (Array.replicate ops.size false) = List.range ops.size := by
        unfold remOf
        apply List.filter_eq_self.2
        intro i hi
        have := List.mem_range.1 hi
        simp [Array.getD_eq_getD_getElem?, this]
      have h2 : ∀ n i, upFrom i n = List.range' i n := by
        intro n
        induction n with
        | zero => intro i; rfl
        | succ n ih => intro i; simp only [upFrom, ih, List.range'_succ]
      rw [h1, h2, List.range_eq_range']
    have hfalse : ∀ k, (Array.replicate ops.size false).getD k false = false := by
      intro k
      simp only [Array.getD_eq_getD_getElem?, Array.getElem?_replicate]
      split <;> rfl
    have h' : SI E X w0 Mx pv st a { w with drawn := w.drawn + 1 } := by
      obtain ⟨⟨ι, M, H, hs⟩, hwf, hsz, hdf, hpin⟩ := h
      refine ⟨⟨ι, M, ⟨fun i o hi => (H.obj i o hi).same (fun _ _ => rfl), H.disj, H.own, H.mem, H.memx, H.memB, H.os, H.tape, H.output, H.size, H.keep⟩, hs⟩, hwf, hsz, hdf, hpin⟩
    refine any_sound hT hS hX hcall hn hg hed hpr hpn (fun st' a' w' h' hk' => hQ st' a' w' h'.to_si hk') ops.size _ [] st a _ (by simp) ?_ (fun k o h1 => by rw [hfalse] at h1; cases h1) ((RI.of_si h').congr fun k => ?_) (by rw [hrem]; exact hk)
    · rw [hrem]
      have h2 : ∀ n i, (upFrom i n).length = n := by
        intro n
        induction n with
        | zero => intro i; rfl
        | succ n ih => intro i; simp [upFrom, ih]
      rw [h2]; omega
    · rw [hfalse]; simp

end
end Go.Proofs.YtcmeincdmphaoaaDoor.DS

namespace Go.Proofs.YtcmeincdmphaoaaDoor.DS

section
variable {P : Program} {E : Env} {X : Nat → Prop} {w0 : World} {Mx : Mem} {pv : Nat → Option Value}

theorem frzCells_get (id : Nat) (e : TypeId) (es : List D) (l : List SV) (i : Nat) : (frzCells id e es l)[i]? = (l[i]?).map (frzSV0 id e es) := by
  induction l generalizing i with
  | nil => simp [frzCells]
  | cons s r ih => cases i <;> simp [frzCells, ih]
theorem frzCells_length (id : Nat) (e : TypeId) (es : List D) (l : List SV) : (frzCells id e es l).length = l.length := by
  induction l with
  | nil => rfl
  | cons s r ih => simp [frzCells, ih]
theorem refsOf_frz0 {id : Nat} {e : TypeId} {es : List D} {s : SV} {i : Nat} (h : i ∈ refsOf (frzSV0 id e es s)) : i ∈ refsOf s ∧ i ≠ id := by
  unfold frzSV0 at h
  split at h
  · rename_i j
    cases hb : Nat.beq j id with
    | true => rw [hb] at h; cases h
    | false =>
      rw [hb] at h
      simp only [cond_false, refsOf, refs0, List.mem_singleton] at h
      subst h
      exact ⟨by simp [refsOf, refs0], beq_false.1 hb⟩
  · cases h
  · cases hn : s.names id with
    | true => rw [hn] at h; cases h
    | false =>
      rw [hn] at h
      refine ⟨h, fun e => ?_⟩
      subst e
      exact memN_false hn h
theorem refs0_frz {id : Nat} {e : TypeId} {es : List D} {s : SV} {i : Nat} (h : i ∈ refs0 (frzSV0 id e es s)) : i ∈ refs0 s ∧ i ≠ id := by
  have := refsOf_frz0 (refs_of_refs0 h)
  refine ⟨?_, this.2⟩
  cases s with
  | tup l =>
    exfalso
    unfold frzSV0 at h
    simp only at h
    cases hn : (SV.tup l).names id with
    | true => rw [hn] at h; cases h
    | false => rw [hn] at h; cases h
  | sag t ks l =>
    exfalso
    unfold frzSV0 at h
    simp only at h
    cases hn : (SV.sag t ks l).names id with
    | true => rw [hn] at h; cases h
    | false => rw [hn] at h; cases h
  | _ => exact this.1
theorem refs_frz {id : Nat} {e : TypeId} {es : List D} {s : SV} {i : Nat} (h : i ∈ refsOf (frzSV id e es s)) : i ∈ refsOf s ∧ i ≠ id := by
  cases s with
  | sag t ks l =>
    obtain ⟨s1, hs1, hi⟩ := mem_refsL.1 (show i ∈ refsL (frzCells id e es l) from h)
    obtain ⟨n, hn⟩ := List.mem_iff_getElem?.1 hs1
    rw [frzCells_get, Option.map_eq_some_iff] at hn
    obtain ⟨s0, hs0, rfl⟩ := hn
    obtain ⟨h1, h2⟩ := refs0_frz hi
    exact ⟨mem_refsL.2 ⟨s0, List.mem_of_getElem? hs0, h1⟩, h2⟩
  | _ => exact refsOf_frz0 (e := e) (es := es) h
theorem frz_rel0 {tt : TT} {ι : Nat → Value} {M M' : Mem} {id : Nat} {e : TypeId} {es : List D} {s : SV} {v : Value} (h : SVRel0 tt ι M s v) (hM : ∀ ad x, M ad = some x → M' ad = some x) (hr : Rep tt M' (.slice e) (ι id) (.list es)) : SVRel0 tt ι M' (frzSV0 id e es s) v := by
  have hgen : SVRel0 tt ι M' (cond (s.names id) .gone s) v := by
    cases s.names id with
    | true => trivial
    | false => exact h.congr (fun _ _ => rfl) hM
  cases s with
  | own j =>
    simp only [frzSV0]
    cases hb : Nat.beq j id with
    | true =>
      have := beq_iff.1 hb
      subst this
      obtain ⟨rfl, _⟩ : v = ι j ∧ _ := h
      exact hr
    | false => exact h.congr (fun _ _ => rfl) hM
  | val k d => exact h.congr (fun _ _ => rfl) hM
  | _ => exact hgen
theorem frz_rel {tt : TT} {ι : Nat → Value} {M M' : Mem} {id : Nat} {e : TypeId} {es : List D} {s : SV} {v : Value} (h : SVRel tt ι M s v) (hM : ∀ ad x, M ad = some x → M' ad = some x) (hr : Rep tt M' (.slice e) (ι id) (.list es)) : SVRel tt ι M' (frzSV id e es s) v := by
  have hgen : SVRel tt ι M' (cond (s.names id) .gone s) v := by
    cases s.names id with
    | true => trivial
    | false => exact h.congr (fun _ _ => rfl) hM
  cases s with
  | own j => exact .of0 (frz_rel0 (s := .own j) h hM hr)
  | val k d => exact h.congr (fun _ _ => rfl) hM
  | sag t ks l =>
    obtain ⟨ti, vs, h1, h2, h3, h4, h5, h6, h7⟩ := h
    refine ⟨ti, vs, h1, h2, h3, h4, by rw [frzCells_length]; exact h5, by rw [frzCells_length]; exact h6, fun i s x hs hx => ?_⟩
    rw [frzCells_get, Option.map_eq_some_iff] at hs
    obtain ⟨s0, hs0, rfl⟩ := hs
    exact frz_rel0 (h7 i s0 x hs0 hx) hM hr
  | _ => exact hgen
theorem frz_obj {tt : TT} {ι : Nat → Value} {M M' : Mem} {w : World} {id : Nat} {e : TypeId} {es : List D} {i : Nat} {o : Obj} (h : ObjRel tt ι M w i o) (hM : ∀ ad x, M ad = some x → M' ad = some x) (hr : Rep tt M' (.slice e) (ι id) (.list es)) : ObjRel tt ι M' w i (frzObj id e es o) := by
  have hc := h.congr (ι' := ι) (M' := M') (w' := w) rfl (fun _ _ => rfl) hM (fun _ _ => rfl)
  cases o with
  | arr e es => exact hc
  | map _ _ => exact hc
  | box t c =>
    cases c with
    | whole d => exact hc
    | cells l =>
      obtain ⟨ti, b, cs, h1, h2, h3, h5, h6, h7⟩ := h
      refine ⟨ti, b, cs, h1, h2, h3, h5, by rw [frzCells_length]; exact h6, fun j s c hs hcj => ?_⟩
      rw [frzCells_get, Option.map_eq_some_iff] at hs
      obtain ⟨s0, hs0, rfl⟩ := hs
      exact frz_rel0 (h7 j s0 c hs0 hcj) hM hr

theorem freeze_sound {st st' : St} {a : Act} {w : World} (h : SI E X w0 Mx pv st a w) {id : Nat} (hf : st.freeze id = some st') : SI E X w0 Mx pv st' a w := by
  unfold St.freeze at hf
  cases ho : st.objs id with
  | none => rw [ho] at hf; cases hf
  | some o =>
    cases o with
    | box t c => rw [ho] at hf; cases hf
    | map _ _ => rw [ho] at hf; cases hf
    | arr e es =>
      rw [ho] at hf
      injection hf with hf; subst hf
      obtain ⟨⟨ι, M, H, hs⟩, hwf, hsz, hdf, hpin⟩ := h
      obtain ⟨ei, he, _, har⟩ := H.obj id _ ho
      obtain ⟨M', hM, hMo, hMc, hr⟩ := frz_rep he har (fun b hb off sp => (H.own id _ b ho hb).2 off sp)
      have hobj : ∀ i o', put (fun i => omap (frzObj id e es) (st.objs i)) id none i = some o' → i ≠ id ∧ ∃ o, st.objs i = some o ∧ o' = frzObj id e es o := by
        intro i o' h
        by_cases hi : i = id
        · subst hi; rw [put_same] at h; cases h
        · rw [put_other _ _ _ hi] at h
          cases hob : st.objs i with
          | none => rw [hob] at h; cases h
          | some o => rw [hob] at h; injection h with h; exact ⟨hi, o, rfl, h.symm⟩
      have hin : ∀ i o, i ≠ id → st.objs i = some o → ∃ o', put (fun i => omap (frzObj id e es) (st.objs i)) id none i = some o' := by
        intro i o hi ho'
        rw [put_other _ _ _ hi, ho']; exact ⟨_, rfl⟩
      refine ⟨⟨ι, M', ⟨?_, ?_, ?_, ?_, fun ad v h => hM ad v (H.memx ad v h), ?_, H.os, H.tape, H.output, H.size, H.keep⟩, ?_⟩, ⟨?_, ?_⟩, hsz, hdf, hpin⟩
      · intro i o' h
        obtain ⟨hi, o, ho', rfl⟩ := hobj i o' h
        exact frz_obj (H.obj i o ho') hM hr
      · intro i j oi oj b hi hj hij hbi hbj
        obtain ⟨_, o1, h1, _⟩ := hobj i oi hi
        obtain ⟨_, o2, h2, _⟩ := hobj j oj hj
        exact H.disj i j o1 o2 b h1 h2 hij hbi hbj
      · intro i o' b h hb
        obtain ⟨hi, o, ho', _⟩ := hobj i o' h
        obtain ⟨q1, q2⟩ := H.own i o b ho' hb
        refine ⟨q1, fun off sp => ?_⟩
        rw [hMo ⟨b, off, sp⟩ (fun e => H.disj i id o _ b ho' ho hi hb e)]
        exact q2 off sp
      · intro ad v hv
        rcases hMc ad v hv with h | h
        · exact H.mem ad v h
        · exact h
      · intro ad hb hX
        rw [hMo ad (fun e => ?_)]
        · exact H.memB ad hb hX
        · rcases (H.own id _ ad.block ho e).1 with h | h
          · omega
          · exact hX h
      · intro t s ht
        simp only at ht
        cases hst : st.slots t with
        | none => rw [hst] at ht; cases ht
        | some s0 =>
          rw [hst] at ht; injection ht with ht; subst ht
          exact frz_rel (hs t s0 hst) hM hr
      · intro t s ht i hi
        simp only at ht ⊢
        cases hst : st.slots t with
        | none => rw [hst] at ht; cases ht
        | some s0 =>
          rw [hst] at ht; injection ht with ht; subst ht
          obtain ⟨h1, h2⟩ := refs_frz hi
          obtain ⟨o, ho'⟩ := hwf.slots t s0 hst i h1
          exact hin i o h2 ho'
      · intro j o' hj i hi
        obtain ⟨hji, o, ho', rfl⟩ := hobj j o' hj
        have : i ∈ objRefs0 o ∧ i ≠ id := by
          cases o with
          | arr _ _ => cases hi
          | map _ _ => cases hi
          | box t c =>
            cases c with
            | whole d => cases hi
            | cells l =>
              obtain ⟨s, hs1, hi⟩ := mem_refsL.1 hi
              obtain ⟨n, hn⟩ := List.mem_iff_getElem?.1 hs1
              rw [frzCells_get, Option.map_eq_some_iff] at hn
              obtain ⟨s0, hs0, rfl⟩ := hn
              obtain ⟨h1, h2⟩ := refs0_frz hi
              exact ⟨mem_refsL.2 ⟨s0, List.mem_of_getElem? hs0, h1⟩, h2⟩
        obtain ⟨o2, ho2⟩ := hwf.cells j o ho' i this.1
        exact hin i o2 this.2 ho2

theorem frzAll_sound {a : Act} {w : World} : ∀ (l : List Nat) (st st' : St), SI E X w0 Mx pv st a w → frzAll l st = some st' → SI E X w0 Mx pv st' a w := by
  intro l
  induction l with
  | nil => intro st st' h hf; injection hf with hf; subst hf; exact h
  | cons id r ih =>
    intro st st' h hf
    obtain ⟨st1, h1, hf⟩ := opt_some.1 hf
    exact ih st1 st' (freeze_sound h h1) hf

end
end Go.Proofs.YtcmeincdmphaoaaDoor.DS

namespace Go.Proofs.YtcmeincdmphaoaaDoor.DS

section
variable {P : Program} {E : Env} {X : Nat → Prop} {w0 : World} {Mx : Mem} {pv : Nat → Option Value}

theorem renCells_get (id rid : Nat) (l : List SV) (i : Nat) : (renCells id rid l)[i]? = (l[i]?).map (renSV0 id rid) := by
  induction l generalizing i with
  | nil => simp [renCells]
  | cons s r ih => cases i <;> simp [renCells, ih]
theorem renCells_length (id rid : Nat) (l : List SV) : (renCells id rid l).length = l.length := by
  induction l with
  | nil => rfl
  | cons s r ih => simp [renCells, ih]
theorem refsOf_ren0 {id rid : Nat} {s : SV} {i : Nat} (h : i ∈ refsOf (renSV0 id rid s)) : i = rid ∧ id ∈ refsOf s ∨ i ∈ refsOf s ∧ i ≠ id := by
  unfold renSV0 at h
  split at h
  · rename_i j
    cases hb : Nat.beq j id with
    | true =>
      rw [hb] at h
      simp only [cond_true, refsOf, refs0, List.mem_singleton] at h
      exact .inl ⟨h, by simp [refsOf, refs0, beq_iff.1 hb]⟩
    | false =>
      rw [hb] at h
      simp only [cond_false, refsOf, refs0, List.mem_singleton] at h
      subst h
      exact .inr ⟨by simp [refsOf, refs0], beq_false.1 hb⟩
  · cases h
  · cases hn : s.names id with
    | true => rw [hn] at h; cases h
    | false =>
      rw [hn] at h
      refine .inr ⟨h, fun e => ?_⟩
      subst e
      exact memN_false hn h
theorem refs0_ren {id rid : Nat} {s : SV} {i : Nat} (h : i ∈ refs0 (renSV0 id rid s)) : i = rid ∧ id ∈ refs0 s ∨ i ∈ refs0 s ∧ i ≠ id := by
  have := refsOf_ren0 (refs_of_refs0 h)
  cases s with
  | tup l =>
    exfalso
    unfold renSV0 at h
    simp only at h
    cases hn : (SV.tup l).names id with
    | true => rw [hn] at h; cases h
    | false => rw [hn] at h; cases h
  | sag t ks l =>
    exfalso
    unfold renSV0 at h
    simp only at h
    cases hn : (SV.sag t ks l).names id with
    | true => rw [hn] at h; cases h
    | false => rw [hn] at h; cases h
  | _ => exact this
theorem refs_ren {id rid : Nat} {s : SV} {i : Nat} (h : i ∈ refsOf (renSV id rid s)) : i = rid ∧ id ∈ refsOf s ∨ i ∈ refsOf s ∧ i ≠ id := by
  cases s with
  | sag t ks l =>
    obtain ⟨s1, hs1, hi⟩ := mem_refsL.1 (show i ∈ refsL (renCells id rid l) from h)
    obtain ⟨n, hn⟩ := List.mem_iff_getElem?.1 hs1
    rw [renCells_get, Option.map_eq_some_iff] at hn
    obtain ⟨s0, hs0, rfl⟩ := hn
    rcases refs0_ren hi with ⟨h1, h2⟩ | ⟨h1, h2⟩
    · exact .inl ⟨h1, mem_refsL.2 ⟨s0, List.mem_of_getElem? hs0, h2⟩⟩
    · exact .inr ⟨mem_refsL.2 ⟨s0, List.mem_of_getElem? hs0, h1⟩, h2⟩
  | _ => exact refsOf_ren0 h
theorem ren_rel0 {tt : TT} {ι : Nat → Value} {M : Mem} {id rid : Nat} {s : SV} {v : Value} (h : SVRel0 tt ι M s v) (hr : rid ∉ refs0 s) : SVRel0 tt (put ι rid (ι id)) M (renSV0 id rid s) v := by
  have hgen : SVRel0 tt (put ι rid (ι id)) M (cond (s.names id) .gone s) v := by
    cases s.names id with
    | true => trivial
    | false => exact h.updι hr
  cases s with
  | own j =>
    simp only [renSV0]
    cases hb : Nat.beq j id with
    | true =>
      have := beq_iff.1 hb
      subst this
      obtain ⟨h1, a, n, c, h2⟩ : v = ι j ∧ ∃ a n c, ι j = .slice a n c := h
      exact ⟨by rw [put_same]; exact h1, a, n, c, by rw [put_same]; exact h2⟩
    | false => exact h.updι hr
  | val k d => exact h.updι hr
  | _ => exact hgen
theorem ren_rel {tt : TT} {ι : Nat → Value} {M : Mem} {id rid : Nat} {s : SV} {v : Value} (h : SVRel tt ι M s v) (hr : rid ∉ refsOf s) : SVRel tt (put ι rid (ι id)) M (renSV id rid s) v := by
  have hgen : SVRel tt (put ι rid (ι id)) M (cond (s.names id) .gone s) v := by
    cases s.names id with
    | true => trivial
    | false => exact h.updι hr
  cases s with
  | own j => exact .of0 (ren_rel0 (s := .own j) h hr)
  | val k d => exact h.updι hr
  | sag t ks l =>
    obtain ⟨ti, vs, h1, h2, h3, h4, h5, h6, h7⟩ := h
    refine ⟨ti, vs, h1, h2, h3, h4, by rw [renCells_length]; exact h5, by rw [renCells_length]; exact h6, fun i s x hs hx => ?_⟩
    rw [renCells_get, Option.map_eq_some_iff] at hs
    obtain ⟨s0, hs0, rfl⟩ := hs
    exact ren_rel0 (h7 i s0 x hs0 hx) (fun hi => hr (mem_refsL.2 ⟨s0, List.mem_of_getElem? hs0, hi⟩))
  | _ => exact hgen
theorem ren_obj {tt : TT} {ι : Nat → Value} {M : Mem} {w : World} {id rid : Nat} {i : Nat} {o : Obj} (h : ObjRel tt ι M w i o) (hi : i ≠ rid) (hr : rid ∉ objRefs0 o) : ObjRel tt (put ι rid (ι id)) M w i (renObj id rid o) := by
  have hc := h.keep (w' := w) (x := ι id) hi hr (fun _ _ => rfl)
  cases o with
  | map _ _ => exact hc
  | arr e es => exact hc
  | box t c =>
    cases c with
    | whole d => exact hc
    | cells l =>
      obtain ⟨ti, b, cs, h1, h2, h3, h5, h6, h7⟩ := h
      refine ⟨ti, b, cs, h1, by rw [put_other _ _ _ hi]; exact h2, h3, h5, by rw [renCells_length]; exact h6, fun j s c hs hcj => ?_⟩
      rw [renCells_get, Option.map_eq_some_iff] at hs
      obtain ⟨s0, hs0, rfl⟩ := hs
      exact ren_rel0 (h7 j s0 c hs0 hcj) (fun hi => hr (mem_refsL.2 ⟨s0, List.mem_of_getElem? hs0, hi⟩))

/-- A row under another name. -/
theorem ren_sound {st : St} {a : Act} {w : World} (h : SI E X w0 Mx pv st a w) {id rid : Nat} {e : TypeId} {es : List D} (ho : st.objs id = some (.arr e es)) (hf : st.objs rid = none) : SI E X w0 Mx pv (st.ren id rid e es) a w := by
  obtain ⟨⟨ι, M, H, hs⟩, hwf, hsz, hdf, hpin⟩ := h
  have hne : rid ≠ id := fun e => by rw [e, ho] at hf; cases hf
  have hslot : ∀ t s, st.slots t = some s → rid ∉ refsOf s := fun t s ht hi => by
    obtain ⟨o, h1⟩ := hwf.slots t s ht rid hi
    rw [hf] at h1; cases h1
  have hcell : ∀ j o, st.objs j = some o → rid ∉ objRefs0 o := fun j o hj hi => by
    obtain ⟨o', h1⟩ := hwf.cells j o hj rid hi
    rw [hf] at h1; cases h1
  have hobj : ∀ i o', (st.ren id rid e es).objs i = some o' → (i = rid ∧ o' = .arr e es) ∨ (i ≠ rid ∧ i ≠ id ∧ ∃ o, st.objs i = some o ∧ o' = renObj id rid o) := by
    intro i o' h
    simp only [St.ren] at h
    by_cases hi : i = rid
    · subst hi; rw [put_same] at h; injection h with h; exact .inl ⟨rfl, h.symm⟩
    · rw [put_other _ _ _ hi] at h
      by_cases hj : i = id
      · subst hj; rw [put_same] at h; cases h
      · rw [put_other _ _ _ hj] at h
        cases hob : st.objs i with
        | none => rw [hob] at h; cases h
        | some o => rw [hob] at h; injection h with h; exact .inr ⟨hi, hj, o, rfl, h.symm⟩
  have hin : ∀ i, (i = rid ∨ (i ≠ id ∧ ∃ o, st.objs i = some o)) → ∃ o', (st.ren id rid e es).objs i = some o' := by
    intro i hi
    simp only [St.ren]
    by_cases he : i = rid
    · subst he; rw [put_same]; exact ⟨_, rfl⟩
    · rw [put_other _ _ _ he]
      rcases hi with hi | ⟨h1, o, h2⟩
      · exact absurd hi he
      · rw [put_other _ _ _ h1, h2]; exact ⟨_, rfl⟩
  have hb : ∀ i o' b, (st.ren id rid e es).objs i = some o' → blockOf (put ι rid (ι id) i) = some b → ∃ j o, st.objs j = some o ∧ blockOf (ι j) = some b ∧ (i = rid → j = id) ∧ (i ≠ rid → j = i ∧ i ≠ id) := by
    intro i o' b h hb
    rcases hobj i o' h with ⟨rfl, rfl⟩ | ⟨h1, h2, o, h3, _⟩
    · rw [put_same] at hb; exact ⟨id, _, ho, hb, fun _ => rfl, fun h => absurd rfl h⟩
    · rw [put_other _ _ _ h1] at hb; exact ⟨i, o, h3, hb, fun h => absurd h h1, fun _ => ⟨rfl, h2⟩⟩
  refine ⟨⟨put ι rid (ι id), M, ⟨?_, ?_, ?_, H.mem, H.memx, H.memB, H.os, H.tape, H.output, H.size, H.keep⟩, ?_⟩, ⟨?_, ?_⟩, hsz, hdf, hpin⟩
  · intro i o' h
    rcases hobj i o' h with ⟨rfl, rfl⟩ | ⟨h1, h2, o, h3, rfl⟩
    · obtain ⟨ei, g1, g2, g3⟩ := H.obj id _ ho
      exact ⟨ei, g1, g2, by rw [put_same]; exact g3⟩
    · exact ren_obj (H.obj i o h3) h1 (hcell i o h3)
  · intro i j oi oj b hi hj hij hbi hbj
    obtain ⟨i', o1, h1, h2, h3, h4⟩ := hb i oi b hi hbi
    obtain ⟨j', o2, g1, g2, g3, g4⟩ := hb j oj b hj hbj
    refine H.disj i' j' o1 o2 b h1 g1 (fun e => ?_) h2 g2
    by_cases hi' : i = rid
    · by_cases hj' : j = rid
      · exact hij (hi'.trans hj'.symm)
      · have := g4 hj'; have := h3 hi'; omega
    · by_cases hj' : j = rid
      · have := h4 hi'; have := g3 hj'; omega
      · have := h4 hi'; have := g4 hj'; omega
  · intro i o' b h hbi
    obtain ⟨j, o, h1, h2, _⟩ := hb i o' b h hbi
    exact H.own j o b h1 h2
  · intro t s ht
    simp only [St.ren] at ht
    cases hst : st.slots t with
    | none => rw [hst] at ht; cases ht
    | some s0 =>
      rw [hst] at ht; injection ht with ht; subst ht
      exact ren_rel (hs t s0 hst) (hslot t s0 hst)
  · intro t s ht i hi
    simp only [St.ren] at ht
    cases hst : st.slots t with
    | none => rw [hst] at ht; cases ht
    | some s0 =>
      rw [hst] at ht; injection ht with ht; subst ht
      rcases refs_ren hi with ⟨h1, _⟩ | ⟨h1, h2⟩
      · exact hin i (.inl h1)
      · exact hin i (.inr ⟨h2, hwf.slots t s0 hst i h1⟩)
  · intro j o' hj i hi
    rcases hobj j o' hj with ⟨rfl, rfl⟩ | ⟨h1, h2, o, h3, rfl⟩
    · cases hi
    · have : i = rid ∨ i ∈ objRefs0 o ∧ i ≠ id := by
        cases o with
        | map _ _ => cases hi
        | arr _ _ => cases hi
        | box t c =>
          cases c with
          | whole d => cases hi
          | cells l =>
            obtain ⟨s, hs1, hi⟩ := mem_refsL.1 hi
            obtain ⟨n, hn⟩ := List.mem_iff_getElem?.1 hs1
            rw [renCells_get, Option.map_eq_some_iff] at hn
            obtain ⟨s0, hs0, rfl⟩ := hn
            rcases refs0_ren hi with ⟨g1, _⟩ | ⟨g1, g2⟩
            · exact .inl g1
            · exact .inr ⟨mem_refsL.2 ⟨s0, List.mem_of_getElem? hs0, g1⟩, g2⟩
      rcases this with h | ⟨g1, g2⟩
      · exact hin i (.inl h)
      · exact hin i (.inr ⟨g2, hwf.cells j o h3 i g1⟩)

/-- A cell that holds no row: it holds an empty one. -/
theorem newRow_sound {st : St} {a : Act} {w : World} (h : SI E X w0 Mx pv st a w) {id rid c : Nat} {t e : TypeId} {ei : TI} {l : List SV} (ho : st.objs id = some (.box t (.cells l))) (hc : l[c]? = some .nil) (hei : lk e E.tt = some ei) (hpos : 0 < ei.cells.length) (hf : st.objs rid = none) :
    SI E X w0 Mx pv { st with objs := put (put st.objs id (some (.box t (.cells (l.set c (.own rid)))))) rid (some (.arr e [])) } a w := by
  obtain ⟨⟨ι, M, H, hs⟩, hwf, hsz, hdf, hpin⟩ := h
  have hne : rid ≠ id := fun e => by rw [e, ho] at hf; cases hf
  have hslot : ∀ t s, st.slots t = some s → rid ∉ refsOf s := fun t s ht hi => by
    obtain ⟨o, h1⟩ := hwf.slots t s ht rid hi
    rw [hf] at h1; cases h1
  have hcell : ∀ j o, st.objs j = some o → rid ∉ objRefs0 o := fun j o hj hi => by
    obtain ⟨o', h1⟩ := hwf.cells j o hj rid hi
    rw [hf] at h1; cases h1
  have hobj : ∀ i o', put (put st.objs id (some (.box t (.cells (l.set c (.own rid)))))) rid (some (.arr e [])) i = some o' → (i = rid ∧ o' = .arr e []) ∨ (i = id ∧ o' = .box t (.cells (l.set c (.own rid)))) ∨ (i ≠ rid ∧ i ≠ id ∧ st.objs i = some o') := by
    intro i o' h
    by_cases hi : i = rid
    · subst hi; rw [put_same] at h; injection h with h; exact .inl ⟨rfl, h.symm⟩
    · rw [put_other _ _ _ hi] at h
      by_cases hj : i = id
      · subst hj; rw [put_same] at h; injection h with h; exact .inr (.inl ⟨rfl, h.symm⟩)
      · rw [put_other _ _ _ hj] at h; exact .inr (.inr ⟨hi, hj, h⟩)
  have hin : ∀ i, (∃ o, st.objs i = some o) ∨ i = rid → ∃ o', put (put st.objs id (some (.box t (.cells (l.set c (.own rid)))))) rid (some (.arr e [])) i = some o' := by
    intro i hi
    by_cases he : i = rid
    · subst he; rw [put_same]; exact ⟨_, rfl⟩
    · rw [put_other _ _ _ he]
      by_cases hj : i = id
      · subst hj; rw [put_same]; exact ⟨_, rfl⟩
      · rw [put_other _ _ _ hj]
        rcases hi with hi | hi
        · exact hi
        · exact absurd hi he
  have hb : ∀ i o' b, put (put st.objs id (some (.box t (.cells (l.set c (.own rid)))))) rid (some (.arr e [])) i = some o' → blockOf (put ι rid (.slice none 0 0) i) = some b → i ≠ rid ∧ ∃ o, st.objs i = some o ∧ blockOf (ι i) = some b := by
    intro i o' b h hb
    rcases hobj i o' h with ⟨rfl, rfl⟩ | ⟨rfl, rfl⟩ | ⟨h1, h2, h3⟩
    · rw [put_same] at hb; cases hb
    · rw [put_other _ _ _ (fun e => hne e.symm)] at hb; exact ⟨fun e => hne e.symm, _, ho, hb⟩
    · rw [put_other _ _ _ h1] at hb; exact ⟨h1, _, h3, hb⟩
  refine ⟨⟨put ι rid (.slice none 0 0), M, ⟨?_, ?_, ?_, H.mem, H.memx, H.memB, H.os, H.tape, H.output, H.size, H.keep⟩, ?_⟩, ⟨?_, ?_⟩, hsz, hdf, hpin⟩
  · intro i o' h
    rcases hobj i o' h with ⟨rfl, rfl⟩ | ⟨rfl, rfl⟩ | ⟨h1, h2, h3⟩
    · exact ⟨ei, hei, hpos, .inl ⟨put_same _ _ _, rfl⟩⟩
    · obtain ⟨ti, b, cs, h1, h2, h3, h5, h6, h7⟩ := H.obj i _ ho
      refine ⟨ti, b, cs, h1, by rw [put_other _ _ _ (fun e => hne e.symm)]; exact h2, h3, h5, by rw [List.length_set]; exact h6, fun j s u hj hu => ?_⟩
      by_cases hjc : j = c
      · subst hjc
        have hlt := (List.getElem?_eq_some_iff.1 hc).1
        rw [List.getElem?_set_self hlt] at hj
        injection hj with hj; subst hj
        have hv : u = .slice none 0 0 := h7 j .nil u hc hu
        exact ⟨by rw [put_same]; exact hv, none, 0, 0, put_same _ _ _⟩
      · rw [List.getElem?_set_ne (fun e => hjc e.symm)] at hj
        exact (h7 j s u hj hu).updι (fun hi => hcell i _ ho (mem_refsL.2 ⟨s, List.mem_of_getElem? hj, hi⟩))
    · exact (H.obj i o' h3).keep h1 (hcell i o' h3) (fun _ _ => rfl)
  · intro i j oi oj b hi hj hij hbi hbj
    obtain ⟨_, o1, h1, h2⟩ := hb i oi b hi hbi
    obtain ⟨_, o2, g1, g2⟩ := hb j oj b hj hbj
    exact H.disj i j o1 o2 b h1 g1 hij h2 g2
  · intro i o' b h hbi
    obtain ⟨_, o, h1, h2⟩ := hb i o' b h hbi
    exact H.own i o b h1 h2
  · intro t' s ht
    exact (hs t' s ht).updι (hslot t' s ht)
  · intro t' s ht i hi
    exact hin i (.inl (hwf.slots t' s ht i hi))
  · intro j o' hj i hi
    rcases hobj j o' hj with ⟨rfl, rfl⟩ | ⟨rfl, rfl⟩ | ⟨h1, h2, h3⟩
    · cases hi
    · obtain ⟨s, hs1, hi⟩ := mem_refsL.1 hi
      rcases List.mem_or_eq_of_mem_set hs1 with hs1 | rfl
      · exact hin i (.inl (hwf.cells j _ ho i (mem_refsL.2 ⟨s, hs1, hi⟩)))
      · simp only [refs0, List.mem_singleton] at hi
        exact hin i (.inr hi)
    · exact hin i (.inl (hwf.cells j o' h3 i hi))

theorem rowCell_sound {st st' : St} {a : Act} {w : World} (h : SI E X w0 Mx pv st a w) {x : Nat × Nat × TypeId} (hf : rowCell E.tt st x = some st') : SI E X w0 Mx pv st' a w := by
  obtain ⟨id, c, e⟩ := x
  replace hf : rowCell1 E.tt st id c e = some st' := hf
  unfold rowCell1 at hf
  split at hf
  · rename_i t l ho
    split at hf
    · rename_i hc
      split at hf
      · rename_i ei hei
        replace hf := cond_some.1 hf
        obtain ⟨h1, hf⟩ := hf
        simp only [Bool.and_eq_true] at h1
        injection hf with hf; subst hf
        have hfr : st.objs (cellRow id c) = none := by
          have := h1.2
          unfold fresh at this
          cases hx : st.objs (cellRow id c) with
          | none => rfl
          | some o => rw [hx] at this; cases this
        exact newRow_sound h ho hc hei (Nat.le_of_ble_eq_true h1.1) hfr
      · cases hf
    · rename_i i hc
      cases hb : Nat.beq i (cellRow id c) with
      | true => rw [hb] at hf; injection hf with hf; subst hf; exact h
      | false =>
        rw [hb] at hf
        simp only [cond_false] at hf
        split at hf
        · rename_i e' es hi
          replace hf := cond_some.1 hf
          obtain ⟨h1, hf⟩ := hf
          injection hf with hf; subst hf
          have hfr : st.objs (cellRow id c) = none := by
            unfold fresh at h1
            cases hx : st.objs (cellRow id c) with
            | none => rfl
            | some o => rw [hx] at h1; cases h1
          exact ren_sound h hi hfr
        · cases hf
    · injection hf with hf; subst hf; exact h
    · cases hf
  · injection hf with hf; subst hf; exact h
theorem rowCells_sound {a : Act} {w : World} : ∀ (l : List (Nat × Nat × TypeId)) (st st' : St), SI E X w0 Mx pv st a w → rowCells E.tt l st = some st' → SI E X w0 Mx pv st' a w := by
  intro l
  induction l with
  | nil => intro st st' h hf; injection hf with hf; subst hf; exact h
  | cons x r ih =>
    intro st st' h hf
    obtain ⟨st1, h1, hf⟩ := opt_some.1 hf
    exact ih st1 st' (rowCell_sound h h1) hf
end
end Go.Proofs.YtcmeincdmphaoaaDoor.DS

namespace Go.Proofs.YtcmeincdmphaoaaDoor.DS

theorem nodupN_iff {l : List Nat} : nodupN l = true ↔ l.Nodup := by
  induction l with
  | nil => simp [nodupN]
  | cons x r ih =>
    simp only [nodupN, List.nodup_cons]
    cases h : memN x r with
    | true => simp [memN_iff.1 h]
    | false => simp [ih, memN_false h]
theorem allIn_iff {l m : List Nat} : allIn l m = true ↔ ∀ x ∈ l, x ∈ m := by
  induction l with
  | nil => simp [allIn]
  | cons x r ih =>
    simp only [allIn, List.forall_mem_cons]
    cases h : memN x m with
    | true => simp [memN_iff.1 h, ih]
    | false => simp [memN_false h]
theorem lk_keys {α : Type} {i : Nat} {l : List (Nat × α)} : (∃ o, lk i l = some o) ↔ i ∈ keysOf l := by
  induction l with
  | nil => simp [lk, keysOf]
  | cons p r ih =>
    obtain ⟨t, x⟩ := p
    simp only [lk, keysOf, List.mem_cons]
    cases h : Nat.beq i t with
    | true => simp [beq_iff.1 h]
    | false => simp [ih, beq_false.1 h]
theorem lk_append {α : Type} {i : Nat} {l m : List (Nat × α)} : lk i (l ++ m) = match lk i l with | some x => some x | none => lk i m := by
  induction l with
  | nil => rfl
  | cons p r ih =>
    obtain ⟨t, x⟩ := p
    simp only [List.cons_append, lk]
    cases h : Nat.beq i t with
    | true => rfl
    | false => simp only [cond_false]; exact ih
theorem keysOf_append {α : Type} {l m : List (Nat × α)} : keysOf (l ++ m) = keysOf l ++ keysOf m := by
  induction l with
  | nil => rfl
  | cons p r ih => simp [keysOf, ih]

theorem keepObjs_spec {st : St} : ∀ (ids : List Nat) (os : List (Nat × Obj)), keepObjs st ids = some os → keysOf os = ids ∧ ∀ i o, lk i os = some o → st.objs i = some o := by
  intro ids
  induction ids with
  | nil => intro os h; injection h with h; subst h; exact ⟨rfl, fun i o h => by cases h⟩
  | cons id r ih =>
    intro os h
    obtain ⟨o, ho, h⟩ := opt_some.1 h
    obtain ⟨x, hx, h⟩ := opt_some.1 h
    injection h with h; subst h
    obtain ⟨h1, h2⟩ := ih x hx
    refine ⟨by simp [keysOf, h1], fun i o' h => ?_⟩
    simp only [lk] at h
    cases hb : Nat.beq i id with
    | true => rw [hb] at h; injection h with h; subst h; rw [beq_iff.1 hb]; exact ho
    | false => rw [hb] at h; exact h2 i o' h

structure KeepSpec (tt : TT) (st : St) (ks : List (Nat × NA)) (sl : List (Nat × SV)) (ob : List (Nat × Obj)) : Prop where
  slot : ∀ t s, lk t sl = some s → (∃ s0, st.slots t = some s0 ∧ (∀ (ι : Nat → Value) (M : Mem) (v : Value), SVRel tt ι M s0 v → SVRel tt ι M s v) ∧ ∀ i ∈ refsOf s, i ∈ asisRefs st ks) ∨ (s = .own t ∧ ∃ o, lk t ob = some o)
  obj : ∀ i o, lk i ob = some o → objRefs0 o = [] ∧ ((st.slots i = some .nil ∧ ∃ e ei, o = .arr e [] ∧ lk e tt = some ei ∧ 1 ≤ ei.cells.length) ∨ ∃ id, st.slots i = some (.own id) ∧ st.objs id = some o ∧ id ∈ keepIds st ks)
  dis : ∀ i j id, (∃ o, lk i ob = some o) → (∃ o, lk j ob = some o) → st.slots i = some (.own id) → st.slots j = some (.own id) → i = j

theorem keepSlots_spec {tt : TT} {st : St} : ∀ (ks : List (Nat × NA)) sl ob, keepSlots tt st ks = some (sl, ob) → (keepIds st ks).Nodup → KeepSpec tt st ks sl ob := by
  intro ks
  induction ks with
  | nil =>
    intro sl ob h _
    injection h with h; injection h with h1 h2; subst h1 h2
    exact ⟨fun t s h => (by cases h), fun i o h => (by cases h), fun i j id h => (by obtain ⟨_, h⟩ := h; cases h)⟩
  | cons p r ih =>
    obtain ⟨t, na⟩ := p
    intro sl ob h hnd
    cases na with
    | asis =>
      simp only [keepSlots] at h
      obtain ⟨s, hs, h⟩ := opt_some.1 h
      obtain ⟨x, hx, h⟩ := opt_some.1 h
      injection h with h; injection h with h1 h2; subst h1 h2
      have K := ih x.1 x.2 hx hnd
      have ha : asisRefs st ((t, .asis) :: r) = refsOf s ++ asisRefs st r := by simp only [asisRefs, hs]
      refine ⟨fun u s' h => ?_, fun i o h => ?_, K.dis⟩
      · simp only [lk] at h
        cases hb : Nat.beq u t with
        | true =>
          rw [hb] at h; injection h with h; subst h
          have := beq_iff.1 hb; subst this
          exact .inl ⟨s, hs, fun _ _ _ h => h, fun i hi => by rw [ha]; exact List.mem_append_left _ hi⟩
        | false =>
          rw [hb] at h
          rcases K.slot u s' h with ⟨s0, h1, h3, h2⟩ | h1
          · exact .inl ⟨s0, h1, h3, fun i hi => by rw [ha]; exact List.mem_append_right _ (h2 i hi)⟩
          · exact .inr h1
      · exact K.obj i o h
    | dat e =>
      simp only [keepSlots] at h
      obtain ⟨s, hs, h⟩ := opt_some.1 h
      obtain ⟨x, hx, h⟩ := opt_some.1 h
      have K := ih x.1 x.2 hx hnd
      have key : ∀ k d, (some ((t, SV.val k d) :: x.1, x.2)) = some (sl, ob) → (∀ (ι : Nat → Value) (M : Mem) (v : Value), SVRel tt ι M s v → SVRel tt ι M (.val k d) v) → KeepSpec tt st ((t, .dat e) :: r) sl ob := by
        intro k d h hk
        injection h with h; injection h with h1 h2; subst h1 h2
        refine ⟨fun u s' h => ?_, fun i o h => K.obj i o h, K.dis⟩
        simp only [lk] at h
        cases hb : Nat.beq u t with
        | true =>
          rw [hb] at h; injection h with h; subst h
          have := beq_iff.1 hb; subst this
          exact .inl ⟨s, hs, hk, fun i hi => by cases hi⟩
        | false =>
          rw [hb] at h
          exact K.slot u s' h
      cases s with
      | nil =>
        refine key (.slice e) (.list []) h fun ι M v hv => ?_
        have : v = .slice none 0 0 := hv
        subst this
        exact Rep.nil e none 0 (Nat.zero_le _)
      | val k d => exact key k d h fun _ _ _ h => h
      | _ => cases h
    | own e =>
      simp only [keepSlots] at h
      obtain ⟨s, hs, h⟩ := opt_some.1 h
      obtain ⟨x, hx, h⟩ := opt_some.1 h
      cases s with
      | nil =>
        simp only at h
        have hk : keepIds st ((t, .own e) :: r) = keepIds st r := by simp only [keepIds, hs]
        rw [hk] at hnd
        have K := ih x.1 x.2 hx hnd
        cases hei : lk e tt with
        | none => rw [hei] at h; cases h
        | some ei =>
          rw [hei] at h
          obtain ⟨hle, h⟩ := cond_some.1 h
          injection h with h; injection h with h1 h2; subst h1 h2
          refine ⟨fun u s' h => ?_, fun i o h => ?_, ?_⟩
          · simp only [lk] at h ⊢
            cases hb : Nat.beq u t with
            | true =>
              rw [hb] at h; injection h with h; subst h
              have := beq_iff.1 hb; subst this
              exact .inr ⟨rfl, _, rfl⟩
            | false =>
              rw [hb] at h
              rcases K.slot u s' h with h1 | h1
              · exact .inl h1
              · exact .inr h1
          · simp only [lk] at h
            cases hb : Nat.beq i t with
            | true =>
              rw [hb] at h; injection h with h; subst h
              have := beq_iff.1 hb; subst this
              exact ⟨rfl, .inl ⟨hs, e, ei, rfl, hei, Nat.le_of_ble_eq_true hle⟩⟩
            | false => rw [hb] at h; rw [hk]; exact K.obj i o h
          · intro i j id hi hj hsi hsj
            have hit : i ≠ t := fun e => by subst e; rw [hs] at hsi; cases hsi
            have hjt : j ≠ t := fun e => by subst e; rw [hs] at hsj; cases hsj
            simp only [lk, beq_false.2 hit, beq_false.2 hjt, cond_false] at hi hj
            exact K.dis i j id hi hj hsi hsj
      | own id =>
        simp only at h
        have hk : keepIds st ((t, .own e) :: r) = id :: keepIds st r := by simp only [keepIds, hs]
        rw [hk] at hnd
        obtain ⟨hni, hnd⟩ := List.nodup_cons.1 hnd
        have K := ih x.1 x.2 hx hnd
        cases hob : st.objs id with
        | none => rw [hob] at h; cases h
        | some o =>
          rw [hob] at h
          cases o with
          | box _ _ => cases h
          | map _ _ => cases h
          | arr e' es =>
            obtain ⟨hle, h⟩ := cond_some.1 h
            injection h with h; injection h with h1 h2; subst h1 h2
            refine ⟨fun u s' h => ?_, fun i o h => ?_, ?_⟩
            · simp only [lk] at h ⊢
              cases hb : Nat.beq u t with
              | true =>
                rw [hb] at h; injection h with h; subst h
                have := beq_iff.1 hb; subst this
                exact .inr ⟨rfl, _, rfl⟩
              | false =>
                rw [hb] at h
                rcases K.slot u s' h with h1 | h1
                · exact .inl h1
                · exact .inr h1
            · simp only [lk] at h
              rw [hk]
              cases hb : Nat.beq i t with
              | true =>
                rw [hb] at h; injection h with h; subst h
                have := beq_iff.1 hb; subst this
                exact ⟨rfl, .inr ⟨id, hs, hob, List.mem_cons_self⟩⟩
              | false =>
                rw [hb] at h
                obtain ⟨h1, h2⟩ := K.obj i o h
                refine ⟨h1, ?_⟩
                rcases h2 with h2 | ⟨id', q1, q2, q3⟩
                · exact .inl h2
                · exact .inr ⟨id', q1, q2, List.mem_cons_of_mem _ q3⟩
            · have hother : ∀ j id', (∃ o, lk j x.2 = some o) → st.slots j = some (.own id') → id' ≠ id := by
                intro j id' ⟨o, ho⟩ hsj e
                subst e
                rcases (K.obj j o ho).2 with ⟨q, _⟩ | ⟨id2, q1, _, q3⟩
                · rw [hsj] at q; cases q
                · rw [hsj] at q1; injection q1 with q1; injection q1 with q1; subst q1; exact hni q3
              intro i j id' hi hj hsi hsj
              simp only [lk] at hi hj
              by_cases hit : i = t
              · by_cases hjt : j = t
                · rw [hit, hjt]
                · exfalso
                  rw [beq_false.2 hjt] at hj
                  subst hit
                  rw [hs] at hsi; injection hsi with hsi; injection hsi with hsi
                  exact hother j id' hj hsj hsi.symm
              · by_cases hjt : j = t
                · exfalso
                  rw [beq_false.2 hit] at hi
                  subst hjt
                  rw [hs] at hsj; injection hsj with hsj; injection hsj with hsj
                  exact hother i id' hi hsi hsj.symm
                · rw [beq_false.2 hit] at hi
                  rw [beq_false.2 hjt] at hj
                  exact K.dis i j id' hi hj hsi hsj
      | _ => cases h

section
variable {P : Program} {E : Env} {X : Nat → Prop} {w0 : World} {Mx : Mem} {pv : Nat → Option Value}

theorem cellRefs_mem {i : Nat} {l : List SV} (h : i ∈ refsL l) : i ∈ cellRefs l := by
  induction l with
  | nil => cases h
  | cons s r ih =>
    simp only [refsL, List.mem_append] at h
    simp only [cellRefs, List.mem_append]
    rcases h with h | h
    · exact .inl (refs_of_refs0 h)
    · exact .inr (ih h)
theorem objRefs_of {i j : Nat} {o : Obj} : ∀ {os : List (Nat × Obj)}, lk j os = some o → i ∈ objRefs0 o → i ∈ objRefs os := by
  intro os
  induction os with
  | nil => intro h; cases h
  | cons p r ih =>
    obtain ⟨t, x⟩ := p
    intro h hi
    simp only [lk] at h
    have hr : lk j r = some o → i ∈ objRefs ((t, x) :: r) := by
      intro h
      have := ih h hi
      cases x with
      | arr _ _ => exact this
      | map _ _ => exact this
      | box _ c =>
        cases c with
        | whole _ => exact this
        | cells l => exact List.mem_append_right _ this
    cases hb : Nat.beq j t with
    | true =>
      rw [hb] at h; injection h with h; subst h
      cases x with
      | arr _ _ => cases hi
      | map _ _ => cases hi
      | box _ c =>
        cases c with
        | whole _ => cases hi
        | cells l => exact List.mem_append_left _ (cellRefs_mem hi)
    | false => rw [hb] at h; exact hr h

theorem frzSlots_sound {a : Act} {w : World} : ∀ (l : List Nat) (st st' : St), SI E X w0 Mx pv st a w → frzSlots l st = some st' → SI E X w0 Mx pv st' a w := by
  intro l
  induction l with
  | nil => intro st st' h hf; injection hf with hf; subst hf; exact h
  | cons t r ih =>
    intro st st' h hf
    unfold frzSlots at hf
    split at hf
    · obtain ⟨st1, h1, hf⟩ := opt_some.1 hf
      exact ih st1 st' (frzAll_sound _ _ _ h h1) hf
    · exact ih st st' h hf

theorem frzBoxes_sound {a : Act} {w : World} : ∀ (l : List Nat) (st st' : St), SI E X w0 Mx pv st a w → frzBoxes l st = some st' → SI E X w0 Mx pv st' a w := by
  intro l
  induction l with
  | nil => intro st st' h hf; injection hf with hf; subst hf; exact h
  | cons t r ih =>
    intro st st' h hf
    unfold frzBoxes at hf
    split at hf
    · split at hf
      · obtain ⟨st1, h1, hf⟩ := opt_some.1 hf
        exact ih st1 st' (frzAll_sound _ _ _ h h1) hf
      · exact ih st st' h hf
    · exact ih st st' h hf

theorem norm_sound {nm : Norm} {st st' : St} {a : Act} {w : World} (h : SI E X w0 Mx pv st a w) (hf : normSt E.tt nm st = some st') : SI E X w0 Mx pv st' a w := by
  unfold normSt at hf
  obtain ⟨stz, h1, hf⟩ := opt_some.1 hf
  replace h := frzAll_sound nm.freeze st stz h h1
  obtain ⟨st0, h1', hf⟩ := opt_some.1 hf
  replace h := frzSlots_sound (nm.frz ++ datsOf nm.keep) stz st0 h h1'
  obtain ⟨st00, h1c, hf⟩ := opt_some.1 hf
  replace h := frzBoxes_sound nm.frz st0 st00 h h1c
  obtain ⟨st1, h1b, hf⟩ := opt_some.1 hf
  replace h := rowCells_sound nm.rows st00 st1 h h1b
  cases hk : nm.keep with
  | none => rw [hk] at hf; injection hf with hf; subst hf; exact h
  | some ks =>
    rw [hk] at hf
    simp only at hf
    obtain ⟨x, hx, hf⟩ := opt_some.1 hf
    obtain ⟨os, hos, hf⟩ := opt_some.1 hf
    obtain ⟨hc, hf⟩ := cond_some.1 hf
    injection hf with hf; subst hf
    simp only [Bool.and_eq_true] at hc
    obtain ⟨c1, c2, c3, c4⟩ := hc
    have c1 := nodupN_iff.1 c1
    have c2 := nodupN_iff.1 c2
    have c3 := allIn_iff.1 c3
    have c4 := allIn_iff.1 c4
    rw [keysOf_append] at c1
    obtain ⟨_, _, c1⟩ := List.nodup_append.1 c1
    obtain ⟨c5, _, c6⟩ := List.nodup_append.1 c2
    have K := keepSlots_spec ks x.1 x.2 hx c5
    obtain ⟨ko, hko⟩ := keepObjs_spec (idsOf nm st1 ks) os hos
    obtain ⟨⟨ι, M, H, hs⟩, hwf, hsz, hdf, hpin⟩ := h
    have hnone : ∀ i, i ∈ (idsOf nm st1 ks) → lk i x.2 = none := by
      intro i hi
      cases hl : lk i x.2 with
      | none => rfl
      | some o => exact absurd rfl (c1 i (lk_keys.1 ⟨o, hl⟩) i (by rw [ko]; exact hi))
    have hthere : ∀ i, i ∈ (idsOf nm st1 ks) → ∃ o, lk i (x.2 ++ os) = some o := by
      intro i hi
      obtain ⟨o, ho⟩ := lk_keys.2 (show i ∈ keysOf os by rw [ko]; exact hi)
      exact ⟨o, by rw [lk_append, hnone i hi]; exact ho⟩
    let ι' : Nat → Value := fun i => match lk i x.2 with | some _ => a.eval (.tmp i) | none => ι i
    have hι1 : ∀ i, i ∈ (idsOf nm st1 ks) → ι' i = ι i := fun i hi => by simp only [ι', hnone i hi]
    have hι2 : ∀ i o, lk i x.2 = some o → ι' i = a.eval (.tmp i) := fun i o h => by simp only [ι', h]
    -- a kept object and its handle
    have hown : ∀ i o, lk i x.2 = some o → (ι' i = .slice none 0 0 ∧ ∃ e ei, o = .arr e [] ∧ lk e E.tt = some ei ∧ 1 ≤ ei.cells.length) ∨ ∃ id, st1.slots i = some (.own id) ∧ st1.objs id = some o ∧ ι' i = ι id ∧ id ∈ keepIds st1 ks ∧ ∃ a n c, ι id = .slice a n c := by
      intro i o hi
      rcases (K.obj i o hi).2 with ⟨q1, q2⟩ | ⟨id, q1, q2, q3⟩
      · exact .inl ⟨by rw [hι2 i o hi]; exact hs i _ q1, q2⟩
      · obtain ⟨r1, r2⟩ : a.eval (.tmp i) = ι id ∧ _ := hs i _ q1
        exact .inr ⟨id, q1, q2, by rw [hι2 i o hi]; exact r1, q3, r2⟩
    have hobj : ∀ i o, lk i (x.2 ++ os) = some o → lk i x.2 = some o ∨ (lk i x.2 = none ∧ i ∈ (idsOf nm st1 ks) ∧ lk i os = some o ∧ st1.objs i = some o) := by
      intro i o h
      rw [lk_append] at h
      cases hl : lk i x.2 with
      | some o' => rw [hl] at h; exact .inl h
      | none => rw [hl] at h; exact .inr ⟨rfl, by rw [← ko]; exact lk_keys.1 ⟨o, h⟩, h, hko i o h⟩
    -- the origin of a block
    have horig : ∀ i o b, lk i (x.2 ++ os) = some o → blockOf (ι' i) = some b → ∃ id, st1.objs id = some o ∧ blockOf (ι id) = some b ∧ ((lk i x.2 = some o ∧ st1.slots i = some (.own id) ∧ id ∈ keepIds st1 ks) ∨ (lk i x.2 = none ∧ id = i ∧ i ∈ (idsOf nm st1 ks))) := by
      intro i o b h hb
      rcases hobj i o h with h1 | ⟨h0, h1, h2, h3⟩
      · rcases hown i o h1 with ⟨q, _⟩ | ⟨id, q1, q2, q3, q4, _⟩
        · rw [q] at hb; cases hb
        · exact ⟨id, q2, by rw [← q3]; exact hb, .inl ⟨h1, q1, q4⟩⟩
      · exact ⟨i, h3, by rw [← hι1 i h1]; exact hb, .inr ⟨h0, rfl, h1⟩⟩
    refine ⟨⟨ι', M, ⟨?_, ?_, ?_, H.mem, H.memx, H.memB, H.os, H.tape, H.output, H.size, H.keep⟩, ?_⟩, ⟨?_, ?_⟩, hsz, hdf, hpin⟩
    · intro i o h
      rcases hobj i o h with h1 | ⟨_, h1, h2, h3⟩
      · rcases hown i o h1 with ⟨q1, e, ei, rfl, q2, q3⟩ | ⟨id, q1, q2, q3, _⟩
        · exact ⟨ei, q2, q3, .inl ⟨q1, rfl⟩⟩
        · have hr := H.obj id o q2
          have hno := (K.obj i o h1).1
          cases o with
          | arr e es =>
            obtain ⟨ei, r1, r2, r3⟩ := hr
            exact ⟨ei, r1, r2, by rw [q3]; exact r3⟩
          | box t c =>
            obtain ⟨_, _, _, _, hp, _⟩ := hr
            obtain ⟨_, _, _, hsl⟩ : ∃ a n c, ι id = .slice a n c := by
              rcases hown i _ h1 with ⟨_, e, _, h, _⟩ | ⟨id', p1, p2, p3, p4, p5⟩
              · cases h
              · rw [q1] at p1
                have : id = id' := by injection p1 with p1; injection p1
                rw [this]; exact p5
            rw [hp] at hsl; cases hsl
          | map t kvs =>
            obtain ⟨_, _, _, _, _, _, _, _, _, _, _, _, _, _, _, hp, _⟩ := hr
            obtain ⟨_, _, _, hsl⟩ : ∃ a n c, ι id = .slice a n c := by
              rcases hown i _ h1 with ⟨_, e, _, h, _⟩ | ⟨id', p1, p2, p3, p4, p5⟩
              · cases h
              · rw [q1] at p1
                have : id = id' := by injection p1 with p1; injection p1
                rw [this]; exact p5
            rw [hp] at hsl; cases hsl
      · refine (H.obj i o h3).congr (hι1 i h1) (fun j hj => hι1 j (c4 j (objRefs_of h2 hj))) (fun _ _ h => h) (fun _ _ => rfl)
    · intro i j oi oj b hi hj hij hbi hbj
      obtain ⟨id1, p1, p2, p3⟩ := horig i oi b hi hbi
      obtain ⟨id2, r1, r2, r3⟩ := horig j oj b hj hbj
      have hne : id1 ≠ id2 := by
        intro e
        subst e
        rcases p3 with ⟨k1, k2, k3⟩ | ⟨k1, k2, k3⟩ <;> rcases r3 with ⟨l1, l2, l3⟩ | ⟨l1, l2, l3⟩
        · exact hij (K.dis i j id1 ⟨_, k1⟩ ⟨_, l1⟩ k2 l2)
        · exact c6 id1 k3 id1 (by rw [l2]; exact l3) rfl
        · exact c6 id1 l3 id1 (by rw [k2]; exact k3) rfl
        · exact hij (k2.symm.trans l2)
      exact H.disj id1 id2 oi oj b p1 r1 hne p2 r2
    · intro i o b hi hb
      obtain ⟨id, p1, p2, _⟩ := horig i o b hi hb
      exact H.own id o b p1 p2
    · intro t s ht
      simp only at ht
      rcases K.slot t s ht with ⟨s0, q1, q3, q2⟩ | ⟨rfl, o, ho⟩
      · exact (q3 _ _ _ (hs t s0 q1)).congr (fun i hi => hι1 i (c3 i (q2 i hi))) (fun _ _ h => h)
      · refine ⟨(hι2 t o ho).symm, ?_⟩
        rcases hown t o ho with ⟨q, _⟩ | ⟨id, _, _, q3, _, q5⟩
        · exact ⟨_, _, _, q⟩
        · rw [q3]; exact q5
    · intro t s ht i hi
      simp only at ht ⊢
      rcases K.slot t s ht with ⟨s0, q1, q3, q2⟩ | ⟨rfl, o, ho⟩
      · exact hthere i (c3 i (q2 i hi))
      · simp only [refsOf, refs0, List.mem_singleton] at hi
        subst hi
        exact ⟨o, by rw [lk_append, ho]⟩
    · intro j o hj i hi
      simp only at hj ⊢
      rcases hobj j o hj with h1 | ⟨_, h1, h2, h3⟩
      · rw [(K.obj j o h1).1] at hi; cases hi
      · exact hthere i (c4 i (objRefs_of h2 hi))

theorem normAt_sound {an : List (Nat × Norm)} {c : Code} {st st' : St} {a : Act} {w : World} (h : SI E X w0 Mx pv st a w) (hf : normAt E.tt an c st = some st') : SI E X w0 Mx pv st' a w := by
  unfold normAt at hf
  split at hf
  · split at hf
    · exact norm_sound h hf
    · injection hf with hf; subst hf; exact h
  · injection hf with hf; subst hf; exact h

end
end Go.Proofs.YtcmeincdmphaoaaDoor.DS
