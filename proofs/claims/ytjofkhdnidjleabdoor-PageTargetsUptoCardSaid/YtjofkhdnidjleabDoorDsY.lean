/- Regions in memory. -/
import Derived.Test.YtjofkhdnidjleabDoorDsX
set_option linter.unusedVariables false
set_option linter.unusedSimpArgs false
namespace Go.Proofs.YtjofkhdnidjleabDoor.DS

section
variable {P : Program} {E : Env} {X : Nat → Prop} {w0 w w' : World} {Mx : Mem} {pv : Nat → Option Value} {done : Nat → Prop} {st st1 st2 : St} {a : Act} {draw : Bool} {callk : Nat → List D → R}

theorem RI.congr {ops : List Oper} {done' : Nat → Prop} (h : RI E X w0 Mx pv ops done st a w) (e : ∀ k, done k ↔ done' k) : RI E X w0 Mx pv ops done' st a w := by
  have : done = done' := funext fun k => propext (e k)
  subst this; exact h

/-- A region that is carried out in the text's order. -/
theorem ops_sound {α : Type} (hT : TTok P E.tt) {W0 : World} (hS : Same W0 w0) (hX : ∀ b, X b → W0.heap.size ≤ b) (hcall : CallOK P E W0 callk) {ops : Array Oper} (hn : nodupN (dstsOf ops.toList) = true) (hg : guardsOk ops.toList draw = true) (hpn : ∀ i o, nthOp ops.toList i = some o → ∀ t, o.dst = some t → pv t = none) {Q : Exit → Act → World → Prop} {K : St → Option α} {r : α}
    (hQ : ∀ st' a' w', RI E X w0 Mx pv ops.toList (fun k => k < ops.size) st' a' w' → K st' = some r → Q .normal a' w') :
    ∀ n i st a w, i + n = ops.size → RI E X w0 Mx pv ops.toList (fun k => k < i) st a w → opsK E callk ops.toList draw (upFrom i n) st K = some r → wpOps P ops Q (List.range' i n) a w := by
  intro n
  induction n with
  | zero =>
    intro i st a w hin h hk
    have : i = ops.size := by omega
    subst this
    exact hQ st a w h hk
  | succ n ih =>
    intro i st a w hin h hk
    simp only [upFrom, opsK] at hk
    rw [List.range'_succ, wpOps_cons]
    have hlt : i < ops.size := by omega
    have hi : nthOp ops.toList i = some ops[i] := by rw [nthOp_toList]; simp [hlt]
    by_cases hH : draw = true ∨ isH E ops.toList draw i st = false
    case neg =>
      simp only [not_or, Bool.not_eq_true, Bool.not_eq_false] at hH
      obtain ⟨hd, hH⟩ := hH
      unfold isH at hH
      rw [hi] at hH
      simp only at hH
      unfold opK at hk
      rw [hi] at hk
      simp only at hk
      cases hch : chainOf ops.toList i with
      | cons _ _ => rw [hch] at hH; cases hH
      | nil =>
        rw [hch] at hH hk
        simp only at hH hk
        cases hop : opO E draw st ops.toList [] ops[i] with
        | none => rw [hop] at hH; cases hH
        | some out =>
          rw [hop] at hH hk
          cases out with
          | hcall f ds sg rows boxes =>
            simp only [hd, cond_false] at hk
            obtain ⟨r', hr', hk⟩ := opt_some.1 hk
            obtain ⟨st', hu, hk⟩ := opt_some.1 hk
            refine hop_sound hT hS hX hcall hn hg hi (by omega) (fun j w hgd => ?_) (hpn i _ hi) h hch hop hr' hu ?_
            · obtain ⟨_, _, _, _, hlt, _⟩ := guards_spec hg hi hgd; exact hlt
            · intro a' w' h'
              exact ih (i + 1) st' a' w' (by omega) (h'.congr fun k => by omega) (by rw [hd]; exact hk)
          | _ => cases hH
    rw [opK_eq _ _ _ _ _ _ _ hH] at hk
    obtain ⟨p, hp, hk⟩ := opt_some.1 hk
    obtain ⟨st', hu, hk⟩ := opt_some.1 hk
    refine op_sound hT hS hX hcall hn hg hi (by omega) (fun j w hgd => ?_) (hpn i _ hi) h hp hu ?_
    · obtain ⟨_, _, _, _, hlt, _⟩ := guards_spec hg hi hgd; exact hlt
    · intro a' w' h'
      exact ih (i + 1) st' a' w' (by omega) (h'.congr fun k => by omega) hk

/-! ### Change of places -/
variable {ops : List Oper}

def putD {α : Type} (f : Nat → Option α) (d : Option Nat) (v : α) : Nat → Option α := match d with | some t => put f t (some v) | none => f
def putOb (f : Nat → Option Obj) (x : Option (Nat × Obj × Bool)) : Nat → Option Obj := match x with | some (id, ob, _) => put f id (some ob) | none => f
theorem putD_cases {α : Type} (f : Nat → Option α) (d : Option Nat) (v : α) (t : Nat) : (d = some t ∧ putD f d v t = some v) ∨ (d ≠ some t ∧ putD f d v t = f t) := by
  cases d with
  | none => exact .inr ⟨(fun e => by cases e), rfl⟩
  | some u =>
    by_cases e : t = u
    · subst e; exact .inl ⟨rfl, put_same _ _ _⟩
    · exact .inr ⟨fun h => (by injection h with h; exact e h.symm), put_other _ _ _ e⟩
theorem putOb_cases (f : Nat → Option Obj) (x : Option (Nat × Obj × Bool)) (i : Nat) : (∃ ob scr, x = some (i, ob, scr) ∧ putOb f x i = some ob) ∨ putOb f x i = f i := by
  cases x with
  | none => exact .inr rfl
  | some y =>
    obtain ⟨id, ob, scr⟩ := y
    by_cases e : i = id
    · subst e; exact .inl ⟨ob, scr, rfl, put_same _ _ _⟩
    · exact .inr (put_other _ _ _ e)
def dstOk (n : Nat) : Option Nat → Bool | some t => Nat.ble (t + 1) n | none => true

theorem applyU_eq {o : Oper} {p : Option Nat × Upd} (h : UFact st o p) (st' : St) : applyU st' p.1 p.2 = cond (dstOk st'.n p.1) (some ⟨st'.n, putD st'.slots p.1 p.2.v, putOb st'.objs p.2.ob⟩) none := by
  obtain ⟨d, v, ob, obs⟩ := p
  have h1 := h.obs
  have h2 := h.ob
  simp only at h1
  subst h1
  have key : ∀ s : St, s.n = st'.n → s.slots = st'.slots → s.objs = putOb st'.objs ob → putSlot s d v = cond (dstOk st'.n d) (some ⟨st'.n, putD st'.slots d v, putOb st'.objs ob⟩) none := by
    intro s e1 e2 e3
    cases s with
    | mk n sl os =>
      simp only at e1 e2 e3
      subst e1 e2 e3
      cases d with
      | none => rfl
      | some t => rfl
  unfold applyU
  cases ob with
  | none => exact key st' rfl rfl rfl
  | some x =>
    obtain ⟨id, o', scr⟩ := x
    have := (h2 id o' scr rfl).scr
    subst this
    exact key _ rfl rfl rfl

theorem applyU_wf (hwf : WF st) {o : Oper} {p : Option Nat × Upd} (h : UFact st o p) (hap : applyU st p.1 p.2 = some st1) : WF st1 := by
  rw [applyU_eq h] at hap
  obtain ⟨_, hap⟩ := cond_some.1 hap
  injection hap with hap; subst hap
  have hin : ∀ i ob, st.objs i = some ob → ∃ ob', putOb st.objs p.2.ob i = some ob' := by
    intro i ob hi
    rcases putOb_cases st.objs p.2.ob i with ⟨ob', _, _, h⟩ | h
    · exact ⟨ob', h⟩
    · exact ⟨ob, h.trans hi⟩
  constructor
  · intro t s hs i hi
    simp only at hs ⊢
    have hs' : st.slots t = some s ∨ s = p.2.v := by
      rcases putD_cases st.slots p.1 p.2.v t with ⟨_, h⟩ | ⟨_, h⟩
      · rw [h] at hs; injection hs with hs; exact .inr hs.symm
      · rw [h] at hs; exact .inl hs
    rcases hs' with hs' | rfl
    · obtain ⟨ob, hob⟩ := hwf.slots t s hs' i hi
      exact hin i ob hob
    · rcases h.vrefs i hi with ⟨ob, hob⟩ | ⟨x, hx⟩
      · exact hin i ob hob
      · rw [hx]; exact ⟨x.1, put_same _ _ _⟩
  · intro j ob hj i hi
    simp only at hj ⊢
    have hj' : st.objs j = some ob ∨ ∃ scr, p.2.ob = some (j, ob, scr) := by
      rcases putOb_cases st.objs p.2.ob j with ⟨ob', scr, hx, h⟩ | h
      · rw [h] at hj; injection hj with hj; subst hj; exact .inr ⟨scr, hx⟩
      · rw [h] at hj; exact .inl hj
    rcases hj' with hj' | ⟨scr, hx⟩
    · obtain ⟨ob', hob'⟩ := hwf.cells j ob hj' i hi
      exact hin i ob' hob'
    · rcases (h.ob j ob scr hx).refs i hi with rfl | ⟨ob', hob'⟩
      · rw [hx]; exact ⟨ob, put_same _ _ _⟩
      · exact hin i ob' hob'


structure Indep (ops : List Oper) (i j : Nat) (oi oj : Oper) : Prop where
  alli : (opEff oi).all = false
  allj : (opEff oj).all = false
  di : ∀ d, oi.dst = some d → d ∉ usesOf ops j
  dj : ∀ d, oj.dst = some d → d ∉ usesOf ops i
  dd : ∀ d d', oi.dst = some d → oj.dst = some d' → d ≠ d'
theorem indep_spec {i j : Nat} {oi oj : Oper} (hi : nthOp ops i = some oi) (hj : nthOp ops j = some oj) (h : indep ops i j = true) : Indep ops i j oi oj := by
  unfold indep at h
  rw [hi, hj] at h
  simp only [Bool.and_eq_true, Bool.not_eq_true'] at h
  obtain ⟨⟨q1, q2⟩, h2, h3, h4⟩ := h
  refine ⟨q1, q2, ?_, ?_, ?_⟩
  · intro d hd; unfold dstIn at h2; rw [hd] at h2; exact memN_false h2
  · intro d hd; unfold dstIn at h3; rw [hd] at h3; exact memN_false h3
  · intro d d' hd hd'; rw [hd, hd'] at h4; simp only [Bool.not_eq_true'] at h4; exact beq_false.1 h4
theorem Indep.symm {i j : Nat} {oi oj : Oper} (h : Indep ops i j oi oj) : Indep ops j i oj oi :=
  ⟨h.allj, h.alli, h.dj, h.di, fun d d' h1 h2 e => h.dd d' d h2 h1 e.symm⟩

theorem mem_refsAt {i : Nat} {l : List Nat} : i ∈ refsAt st l ↔ ∃ t ∈ l, ∃ s, st.slots t = some s ∧ i ∈ refsOf s := by
  induction l with
  | nil => simp [refsAt]
  | cons t r ih =>
    simp only [refsAt, List.mem_cons, exists_eq_or_imp]
    cases st.slots t with
    | none => simp [ih]
    | some s => simp [ih]
theorem refsAt_congr {l : List Nat} (h : ∀ t ∈ l, st1.slots t = st.slots t) : refsAt st1 l = refsAt st l := by
  induction l with
  | nil => rfl
  | cons t r ih =>
    simp only [refsAt, h t List.mem_cons_self, ih (fun u hu => h u (List.mem_cons_of_mem _ hu))]
theorem wrAt_uses {o : Oper} {i : Nat} (hi : nthOp ops i = some o) : ∃ l, (∀ t ∈ l, t ∈ usesOf ops i) ∧ ∀ st : St, wrAt st o = refsAt st l := by
  cases hop : o.op with
  | store t a x =>
    refine ⟨opdUses a, fun u hu => ?_, fun st => by simp [wrAt, hop]⟩
    unfold usesOf
    rw [hi]
    refine List.mem_append_left _ ?_
    cases a with
    | tmp v =>
      simp only [opdUses, List.mem_singleton] at hu
      subst hu
      exact opdsUses_mem (x := .tmp u) (by simp [hop, Op.operands]) rfl
    | _ => cases hu
  | _ => exact ⟨[], fun t h => (by cases h), fun st => (by simp [wrAt, hop, refsAt])⟩
theorem disjL_iff {l m : List Nat} : disjL l m = true ↔ ∀ x ∈ l, x ∉ m := by
  induction l with
  | nil => simp [disjL]
  | cons x r ih =>
    simp only [disjL, List.forall_mem_cons]
    cases h : memN x m with
    | true => simp [memN_iff.1 h]
    | false => simp [memN_false h, ih]

/-- What an operation does to the slots and objects that another looks at: nothing. -/
theorem slots_frame (hwf : WF st) {i j : Nat} {oi oj : Oper} (hj : nthOp ops j = some oj) (hI : Indep ops i j oi oj) {pj : Option Nat × Upd} (hpj : evalU E callk ops true j st = some pj) (hap : applyU st pj.1 pj.2 = some st1) :
    ∀ t ∈ usesOf ops i, st1.slots t = st.slots t := by
  have hf := evalU_fact hwf hj hI.allj hpj
  rw [applyU_eq hf] at hap
  obtain ⟨_, hap⟩ := cond_some.1 hap
  injection hap with hap; subst hap
  intro t ht
  rcases putD_cases st.slots pj.1 pj.2.v t with ⟨h, _⟩ | ⟨_, h⟩
  · exact absurd ht (hI.dj t (by rw [← hf.dst]; exact h))
  · exact h

/-- What j does leaves what i does. -/
theorem evalU_frame (hwf : WF st) {i j : Nat} {oi oj : Oper} (hi : nthOp ops i = some oi) (hj : nthOp ops j = some oj) (hI : Indep ops i j oi oj) {pj : Option Nat × Upd} (hpj : evalU E callk ops true j st = some pj) (hap : applyU st pj.1 pj.2 = some st1)
    (hd : ∀ x ∈ wrAt st oj, x ∉ refsAt st (usesOf ops i)) : evalU E callk ops true i st1 = evalU E callk ops true i st := by
  have hsl := slots_frame hwf hj hI hpj hap
  have hf := evalU_fact hwf hj hI.allj hpj
  rw [applyU_eq hf] at hap
  obtain ⟨_, hap⟩ := cond_some.1 hap
  injection hap with hap; subst hap
  refine evalU_congr hi hI.alli hsl ?_ ?_
  · intro d hd
    simp only [fresh]
    rcases putOb_cases st.objs pj.2.ob d with ⟨ob, scr, hx, h⟩ | h
    · rw [h]
      rcases (hf.ob d ob scr hx).kind with ⟨_, h2⟩ | ⟨_, ob0, h2⟩
      · exact absurd rfl (hI.dd d d hd h2)
      · rw [h2]
    · rw [h]
  · intro hrw t s ht hs i' hi'
    rcases putOb_cases st.objs pj.2.ob i' with ⟨ob, scr, hx, h⟩ | h
    · exfalso
      obtain ⟨ob', hob'⟩ := hwf.slots t s hs i' hi'
      rcases (hf.ob i' ob scr hx).kind with ⟨h1, _⟩ | ⟨h1, _⟩
      · rw [h1] at hob'; cases hob'
      · exact hd i' h1 (mem_refsAt.2 ⟨t, ht, s, hs, hi'⟩)
    · exact h

theorem put_swap {α : Type} (f : Nat → α) {t u : Nat} (x y : α) (h : t ≠ u) : put (put f t x) u y = put (put f u y) t x := by
  funext k
  simp only [put]
  by_cases h1 : k = t
  · subst h1
    rw [beq_false.2 h, beq_self]; rfl
  · rw [beq_false.2 h1]; rfl

/-- Two operations that do not meet change places. -/
theorem commute (hwf : WF st) {i j : Nat} {oi oj : Oper} (hi : nthOp ops i = some oi) (hj : nthOp ops j = some oj) (hI : Indep ops i j oi oj) {pj pi : Option Nat × Upd} (hpj : evalU E callk ops true j st = some pj) (hapj : applyU st pj.1 pj.2 = some st1)
    (hpi : evalU E callk ops true i st1 = some pi) (hapi : applyU st1 pi.1 pi.2 = some st2) (hd1 : ∀ x ∈ wrAt st oj, x ∉ refsAt st (usesOf ops i)) (hd2 : ∀ x ∈ wrAt st oi, x ∉ refsAt st (usesOf ops j)) :
    evalU E callk ops true i st = some pi ∧ ∃ st1', applyU st pi.1 pi.2 = some st1' ∧ evalU E callk ops true j st1' = some pj ∧ applyU st1' pj.1 pj.2 = some st2 := by
  have e1 := evalU_frame hwf hi hj hI hpj hapj hd1
  rw [e1] at hpi
  have hfj := evalU_fact hwf hj hI.allj hpj
  have hfi := evalU_fact hwf hi hI.alli hpi
  rw [applyU_eq hfj] at hapj
  obtain ⟨dj, hapj⟩ := cond_some.1 hapj
  injection hapj with hapj; subst hapj
  rw [applyU_eq hfi] at hapi
  obtain ⟨di, hapi⟩ := cond_some.1 hapi
  injection hapi with hapi; subst hapi
  have hap' : applyU st pi.1 pi.2 = some ⟨st.n, putD st.slots pi.1 pi.2.v, putOb st.objs pi.2.ob⟩ := by
    rw [applyU_eq hfi]
    simp only at di
    rw [di]; rfl
  refine ⟨hpi, _, hap', ?_, ?_⟩
  · rw [evalU_frame hwf hj hi hI.symm hpi hap' hd2]; exact hpj
  · rw [applyU_eq hfj]
    simp only
    rw [dj]
    simp only [cond_true, Option.some.injEq, St.mk.injEq, true_and]
    constructor
    · cases hd : pi.1 with
      | none => rfl
      | some d =>
        cases hd' : pj.1 with
        | none => rfl
        | some d' => exact put_swap _ _ _ (hI.dd d d' (by rw [← hfi.dst]; exact hd) (by rw [← hfj.dst]; exact hd'))
    · cases hx : pi.2.ob with
      | none => rfl
      | some x =>
        cases hy : pj.2.ob with
        | none => rfl
        | some y =>
          obtain ⟨id, ob, scr⟩ := x
          obtain ⟨id', ob', scr'⟩ := y
          refine put_swap _ _ _ (fun e => ?_)
          subst e
          rcases (hfi.ob id ob scr hx).kind with ⟨h1, h2⟩ | ⟨h1, ob0, h2⟩ <;> rcases (hfj.ob id ob' scr' hy).kind with ⟨h3, h4⟩ | ⟨h3, ob1, h4⟩
          · exact hI.dd id id h2 h4 rfl
          · rw [h1] at h4; cases h4
          · rw [h3] at h2; cases h2
          · obtain ⟨l, hl1, hl2⟩ := wrAt_uses hi
            rw [hl2] at h1
            obtain ⟨t, ht, s, hs, hr⟩ := mem_refsAt.1 h1
            exact hd1 id h3 (mem_refsAt.2 ⟨t, hl1 t ht, s, hs, hr⟩)

/-- What is asked of an operation, those that went ahead being given. -/
theorem pairOk_iff {i : Nat} {rs ws : List Nat} {log : List (Nat × List Nat × List Nat)} : pairOk ops i rs ws log = true ↔ ∀ p ∈ log, ((∀ x ∈ p.2.2, x ∉ rs) ∧ ∀ x ∈ ws, x ∉ p.2.1) ∨ (p.1 ∈ (ancs ops).getD i [] ∨ i ∈ (ancs ops).getD p.1 []) := by
  induction log with
  | nil => simp [pairOk]
  | cons p r ih =>
    obtain ⟨j, rj, wj⟩ := p
    simp only [pairOk, List.forall_mem_cons]
    cases h : (disjL wj rs && disjL ws rj || (memN j ((ancs ops).getD i []) || memN i ((ancs ops).getD j []))) with
    | true =>
      simp only [cond_true, ih]
      simp only [Bool.or_eq_true, Bool.and_eq_true, disjL_iff, memN_iff] at h
      exact ⟨fun q => ⟨h, q⟩, fun q => q.2⟩
    | false =>
      simp only [cond_false]
      have : ¬ (((∀ x ∈ wj, x ∉ rs) ∧ ∀ x ∈ ws, x ∉ rj) ∨ (j ∈ (ancs ops).getD i [] ∨ i ∈ (ancs ops).getD j [])) := by
        intro hh
        rw [← disjL_iff, ← disjL_iff, ← memN_iff, ← memN_iff, ← Bool.and_eq_true, ← Bool.or_eq_true, ← Bool.or_eq_true, h] at hh
        cases hh
      simp only [this, false_and]
      simp

theorem opsD_log {α : Type} {K : St → Option α} : ∀ (l : List Nat) (log log' : List (Nat × List Nat × List Nat)) (st : St), (∀ p, p ∈ log' → p ∈ log) → ∀ {r}, opsD E callk ops l log st K = some r → opsD E callk ops l log' st K = some r := by
  intro l
  induction l with
  | nil => intro log log' st _ r h; exact h
  | cons i l ih =>
    intro log log' st hsub r h
    simp only [opsD] at h ⊢
    obtain ⟨hp, h⟩ := cond_some.1 h
    have hp' : pairOk ops i (refsAt st (usesOf ops i)) (wrOf ops i st) log' = true := pairOk_iff.2 fun p hm => pairOk_iff.1 hp p (hsub p hm)
    rw [hp', cond_true]
    rw [opK_eqT] at h ⊢
    obtain ⟨pi, h1, h⟩ := opt_some.1 h
    obtain ⟨st1, h2, h⟩ := opt_some.1 h
    rw [h1, opt_val, h2, opt_val]
    refine ih _ _ st1 (fun p hm => ?_) h
    rcases List.mem_cons.1 hm with rfl | hm
    · exact List.mem_cons_self
    · exact List.mem_cons_of_mem _ (hsub p hm)

/-- An operation goes ahead of those it does not meet. -/
theorem front {α : Type} {K : St → Option α} {r : α} {i : Nat} {oi : Oper} (hi : nthOp ops i = some oi) {l2 : List Nat} : ∀ (l1 : List Nat) (log : List (Nat × List Nat × List Nat)) (st : St), WF st → (∀ j ∈ l1, ∃ oj, nthOp ops j = some oj ∧ Indep ops i j oi oj ∧ j ∉ (ancs ops).getD i [] ∧ i ∉ (ancs ops).getD j []) →
    opsD E callk ops (l1 ++ i :: l2) log st K = some r → opsD E callk ops (i :: (l1 ++ l2)) log st K = some r := by
  intro l1
  induction l1 with
  | nil => intro log st _ _ h; exact h
  | cons j l1 ih =>
    intro log st hwf hl h
    obtain ⟨oj, hj, hI, hn1, hn2⟩ := hl j List.mem_cons_self
    simp only [List.cons_append, opsD, opK_eqT] at h ⊢
    obtain ⟨hok, h⟩ := cond_some.1 h
    obtain ⟨pj, hpj, h⟩ := opt_some.1 h
    obtain ⟨st1, hapj, h⟩ := opt_some.1 h
    have hwf1 : WF st1 := applyU_wf hwf (evalU_fact hwf hj hI.allj hpj) hapj
    have h2 := ih _ st1 hwf1 (fun k hk => hl k (List.mem_cons_of_mem _ hk)) h
    simp only [opsD, opK_eqT] at h2
    obtain ⟨hok2, h2⟩ := cond_some.1 h2
    obtain ⟨pi, hpi, h2⟩ := opt_some.1 h2
    obtain ⟨st2, hapi, h2⟩ := opt_some.1 h2
    have hsl := slots_frame hwf hj hI hpj hapj
    have hri : refsAt st1 (usesOf ops i) = refsAt st (usesOf ops i) := refsAt_congr hsl
    have hwi : wrOf ops i st1 = wrOf ops i st := by
      obtain ⟨l, q1, q2⟩ := wrAt_uses hi
      simp only [wrOf, hi, q2]
      exact refsAt_congr fun t ht => hsl t (q1 t ht)
    rw [hri, hwi] at hok2 h2
    have hpair := pairOk_iff.1 hok2 _ List.mem_cons_self
    obtain ⟨hd1, hd2⟩ : (∀ x ∈ wrOf ops j st, x ∉ refsAt st (usesOf ops i)) ∧ ∀ x ∈ wrOf ops i st, x ∉ refsAt st (usesOf ops j) := by
      rcases hpair with h | h | h
      · exact h
      · exact absurd h hn1
      · exact absurd h hn2
    have hwj : wrOf ops j st = wrAt st oj := by simp only [wrOf, hj]
    have hwi' : wrOf ops i st = wrAt st oi := by simp only [wrOf, hi]
    obtain ⟨c1, st1', c2, c3, c4⟩ := commute hwf hi hj hI hpj hapj hpi hapi (by rw [← hwj]; exact hd1) (by rw [← hwi']; exact hd2)
    have hok1 : pairOk ops i (refsAt st (usesOf ops i)) (wrOf ops i st) log = true := pairOk_iff.2 fun p hm => pairOk_iff.1 hok2 p (List.mem_cons_of_mem _ hm)
    have hsl' := slots_frame hwf hi hI.symm c1 c2
    have hrj : refsAt st1' (usesOf ops j) = refsAt st (usesOf ops j) := refsAt_congr hsl'
    have hwj2 : wrOf ops j st1' = wrOf ops j st := by
      obtain ⟨l, q1, q2⟩ := wrAt_uses hj
      simp only [wrOf, hj, q2]
      exact refsAt_congr fun t ht => hsl' t (q1 t ht)
    rw [hok1, cond_true, c1, opt_val, c2, opt_val, hrj, hwj2]
    have hok3 : pairOk ops j (refsAt st (usesOf ops j)) (wrOf ops j st) ((i, refsAt st (usesOf ops i), wrOf ops i st) :: log) = true := by
      refine pairOk_iff.2 fun p hm => ?_
      rcases List.mem_cons.1 hm with rfl | hm
      · exact .inl ⟨hd2, hd1⟩
      · exact pairOk_iff.1 hok p hm
    rw [hok3, cond_true, c3, opt_val, c4, opt_val]
    refine opsD_log _ _ _ _ (fun p hm => ?_) h2
    rcases List.mem_cons.1 hm with rfl | hm
    · exact List.mem_cons_of_mem _ List.mem_cons_self
    · rcases List.mem_cons.1 hm with rfl | hm
      · exact List.mem_cons_self
      · exact List.mem_cons_of_mem _ (List.mem_cons_of_mem _ hm)

/-- What lies ahead of an operation has been done, where its edges have. -/
theorem anc_in {S : Nat → Prop} (hS : ∀ k o, S k → nthOp ops k = some o → ∀ e ∈ anyEdges o, S e) : ∀ (rest pre : List Oper) (dn : List (List Nat)), ops = pre ++ rest → dn.length = pre.length →
    (∀ k o, nthOp ops k = some o → (∀ e ∈ anyEdges o, S e) → ∀ x ∈ dn.getD k [], S x) → ∀ k o, nthOp ops k = some o → (∀ e ∈ anyEdges o, S e) → ∀ x ∈ (ancBuild dn rest).getD k [], S x := by
  intro rest
  induction rest with
  | nil => intro pre dn _ _ h; exact h
  | cons o rest ih =>
    intro pre dn he hl h
    simp only [ancBuild]
    refine ih (pre ++ [o]) _ (by simp [he]) (by simp [hl]) ?_
    intro k ok hk hedge x hx
    rw [List.getD_eq_getElem?_getD] at hx
    by_cases h1 : k < dn.length
    · rw [List.getElem?_append_left h1] at hx
      exact h k ok hk hedge x (by rw [List.getD_eq_getElem?_getD]; exact hx)
    · by_cases h2 : k = dn.length
      · subst h2
        have : ok = o := by
          rw [nthOp_get, he, hl] at hk
          simp at hk; exact hk.symm
        subst this
        simp only [List.length_append, List.getElem?_concat_length, Option.getD_some, List.mem_append, List.mem_flatMap] at hx
        rcases hx with hx | ⟨e, he', hx⟩
        · exact hedge x hx
        · have hSe := hedge e he'
          cases hoe : nthOp ops e with
          | none =>
            exfalso
            rw [nthOp_get] at hoe
            have hge := List.getElem?_eq_none_iff.1 hoe
            rw [List.getD_eq_getElem?_getD, List.getElem?_eq_none (by rw [he] at hge; simp at hge; omega)] at hx
            cases hx
          | some oe => exact h e oe hoe (hS e oe hSe hoe) x hx
      · rw [List.getElem?_eq_none (by simp; omega)] at hx
        cases hx

end
end Go.Proofs.YtjofkhdnidjleabDoor.DS
