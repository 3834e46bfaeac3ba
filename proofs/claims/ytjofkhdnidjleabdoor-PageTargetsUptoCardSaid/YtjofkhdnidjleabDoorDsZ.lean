/- Regions in memory: whatever the order. -/
import Derived.Test.YtjofkhdnidjleabDoorDsY
set_option linter.unusedVariables false
set_option linter.unusedSimpArgs false
namespace Go.Proofs.YtjofkhdnidjleabDoor.DS

section
variable {P : Program} {E : Env} {X : Nat → Prop} {w0 : World} {Mx : Mem} {pv : Nat → Option Value} {callk : Nat → List D → R}

def remOf (n : Nat) (listed : Array Bool) : List Nat := (List.range n).filter fun i => !listed.getD i true

theorem mem_remOf {n : Nat} {listed : Array Bool} {i : Nat} (hs : listed.size = n) : i ∈ remOf n listed ↔ i < n ∧ listed.getD i false = false := by
  unfold remOf
  simp only [List.mem_filter, List.mem_range, Bool.not_eq_true']
  constructor
  · rintro ⟨h1, h2⟩
    refine ⟨h1, ?_⟩
    simp only [Array.getD_eq_getD_getElem?] at h2 ⊢
    rw [Array.getElem?_eq_getElem (by omega)] at h2 ⊢
    exact h2
  · rintro ⟨h1, h2⟩
    refine ⟨h1, ?_⟩
    simp only [Array.getD_eq_getD_getElem?] at h2 ⊢
    rw [Array.getElem?_eq_getElem (by omega)] at h2 ⊢
    exact h2
theorem getD_set {listed : Array Bool} {i k : Nat} (h : i < listed.size) (d : Bool) : (listed.setIfInBounds i true).getD k d = if k = i then true else listed.getD k d := by
  simp only [Array.getD_eq_getD_getElem?, Array.getElem?_setIfInBounds]
  by_cases e : i = k
  · subst e; simp [h]
  · have e2 : ¬ k = i := fun h => e h.symm
    simp [e, e2]

theorem mem_anyEdges {o : Oper} {e : Nat} : e ∈ anyEdges o ↔ ∃ x ∈ o.after.toList, Region.binds .any x = true ∧ x.on = e := by
  simp [anyEdges, and_assoc]
theorem mem_ready {ops : Array Oper} {listed : Array Bool} (hs : listed.size = ops.size) {i : Nat} : i ∈ Region.ready .any ops listed ↔ i ∈ remOf ops.size listed ∧ ∃ o, nthOp ops.toList i = some o ∧ ∀ e ∈ anyEdges o, listed.getD e false = true := by
  unfold Region.ready remOf
  simp only [List.mem_filter, List.mem_range, Bool.and_eq_true]
  constructor
  · rintro ⟨h1, h2, h3⟩
    refine ⟨⟨h1, h2⟩, ops[i], by rw [nthOp_toList]; simp [h1], ?_⟩
    rw [Array.getElem?_eq_getElem h1] at h3
    simp only [Option.map_some, Option.getD_some, Array.all_eq_true_iff_forall_mem] at h3
    intro e he
    obtain ⟨x, hx, hb, rfl⟩ := mem_anyEdges.1 he
    have := h3 x (Array.mem_toList_iff.1 hx)
    rw [hb] at this
    simpa using this
  · rintro ⟨⟨h1, h2⟩, o, ho, hedge⟩
    refine ⟨h1, h2, ?_⟩
    rw [nthOp_toList] at ho
    rw [ho]
    simp only [Option.map_some, Option.getD_some, Array.all_eq_true_iff_forall_mem]
    intro x hx
    cases hb : Region.binds .any x with
    | false => rfl
    | true =>
      have := hedge x.on (mem_anyEdges.2 ⟨x, Array.mem_toList_iff.2 hx, hb, rfl⟩)
      rw [this]; rfl

theorem rem_split {n : Nat} {listed : Array Bool} (hs : listed.size = n) {i : Nat} (hi : i ∈ remOf n listed) : ∃ l1 l2, remOf n listed = l1 ++ i :: l2 ∧ (∀ j ∈ l1, j < i ∧ j ∈ remOf n listed) ∧ remOf n (listed.setIfInBounds i true) = l1 ++ l2 := by
  obtain ⟨l1, l2, hl⟩ := List.append_of_mem hi
  have hp : (remOf n listed).Pairwise (· < ·) := (List.pairwise_lt_range).filter _
  have hin := (mem_remOf hs).1 hi
  rw [hl] at hp
  obtain ⟨p1, p2, p3⟩ := List.pairwise_append.1 hp
  have p4 := (List.pairwise_cons.1 p2).1
  refine ⟨l1, l2, hl, fun j hj => ⟨p3 j hj i List.mem_cons_self, by rw [hl]; exact List.mem_append_left _ hj⟩, ?_⟩
  have : remOf n (listed.setIfInBounds i true) = (remOf n listed).filter (fun k => !(Nat.beq k i)) := by
    unfold remOf
    rw [List.filter_filter]
    apply List.filter_congr
    intro k hk
    rw [getD_set (by omega)]
    by_cases e : k = i
    · subst e; simp [beq_self]
    · simp [e, beq_false.2 e]
  rw [this, hl, List.filter_append, List.filter_cons]
  simp only [beq_self, Bool.not_true]
  have f1 : l1.filter (fun k => !(Nat.beq k i)) = l1 := List.filter_eq_self.2 fun k hk => by
    have := p3 k hk i List.mem_cons_self
    rw [beq_false.2 (by omega)]; rfl
  have f2 : l2.filter (fun k => !(Nat.beq k i)) = l2 := List.filter_eq_self.2 fun k hk => by
    have := p4 k hk
    rw [beq_false.2 (by omega)]; rfl
  rw [f1, f2]; rfl

theorem edges_spec {ops : List Oper} (h : edgesOk ops = true) {i : Nat} {o : Oper} (hi : nthOp ops i = some o) {e : Nat} (he : e ∈ anyEdges o) : e < i := by
  have := allBelow_spec h i (nthOp_lt hi)
  rw [hi] at this
  exact Nat.le_of_ble_eq_true (List.all_eq_true.1 this e he)

theorem anc_lt {ops : List Oper} (h : edgesOk ops = true) {j : Nat} {o : Oper} (hj : nthOp ops j = some o) : ∀ x ∈ (ancs ops).getD j [], x < j := by
  have := anc_in (ops := ops) (S := fun k => k < j) (fun k o hk ho e he => by have := edges_spec h ho he; omega) ops [] [] rfl rfl (fun k o _ _ x hx => by simp at hx) j o hj (fun e he => edges_spec h hj he)
  exact this

theorem any_sound {α : Type} (hT : TTok P E.tt) {W0 : World} (hS : Same W0 w0) (hX : ∀ b, X b → W0.heap.size ≤ b) (hcall : CallOK P E W0 callk) {ops : Array Oper} (hn : nodupN (dstsOf ops.toList) = true) (hg : guardsOk ops.toList true = true) (hed : edgesOk ops.toList = true) (hpr : pairsOk ops.toList (ancs ops.toList) = true) (hpn : ∀ i o, nthOp ops.toList i = some o → ∀ t, o.dst = some t → pv t = none)
    {Q : Exit → Act → World → Prop} {K : St → Option α} {r : α} (hQ : ∀ st' a' w', RI E X w0 Mx pv ops.toList (fun k => k < ops.size) st' a' w' → K st' = some r → Q .normal a' w') :
    ∀ fuel listed log st a w, listed.size = ops.size → (remOf ops.size listed).length ≤ fuel → (∀ k o, listed.getD k false = true → nthOp ops.toList k = some o → ∀ e ∈ anyEdges o, listed.getD e false = true) →
    RI E X w0 Mx pv ops.toList (fun k => listed.getD k false = true) st a w → opsD E callk ops.toList (remOf ops.size listed) log st K = some r → wpAny P .any ops Q fuel listed a w := by
  have hend : ∀ (listed : Array Bool) log st a w, listed.size = ops.size → remOf ops.size listed = [] → RI E X w0 Mx pv ops.toList (fun k => listed.getD k false = true) st a w → opsD E callk ops.toList (remOf ops.size listed) log st K = some r → Q .normal a w := by
    intro listed log st a w hs he h hk
    rw [he] at hk
    refine hQ st a w (h.congr fun k => ?_) hk
    constructor
    · intro hk
      rw [Array.getD_eq_getD_getElem?] at hk
      by_cases h1 : k < listed.size
      · omega
      · rw [Array.getElem?_eq_none (by omega)] at hk; cases hk
    · intro hk
      cases hl : listed.getD k false with
      | true => rfl
      | false =>
        have := (mem_remOf hs).2 ⟨hk, hl⟩
        rw [he] at this; cases this
  have hready : ∀ (listed : Array Bool), listed.size = ops.size → Region.ready .any ops listed = [] → remOf ops.size listed = [] := by
    intro listed hs hr
    cases hl : remOf ops.size listed with
    | nil => rfl
    | cons m rest =>
      exfalso
      have hm : m ∈ remOf ops.size listed := by rw [hl]; exact List.mem_cons_self
      have hp : (remOf ops.size listed).Pairwise (· < ·) := (List.pairwise_lt_range).filter _
      rw [hl] at hp
      have hmin := (List.pairwise_cons.1 hp).1
      have hmlt := ((mem_remOf hs).1 hm).1
      have ho : nthOp ops.toList m = some ops[m] := by rw [nthOp_toList]; simp [hmlt]
      have : m ∈ Region.ready .any ops listed := by
        refine (mem_ready hs).2 ⟨hm, ops[m], ho, fun e he => ?_⟩
        have hlt := edges_spec hed ho he
        cases hle : listed.getD e false with
        | true => rfl
        | false =>
          have := (mem_remOf hs).2 ⟨by omega, hle⟩
          rw [hl] at this
          rcases List.mem_cons.1 this with h | h
          · omega
          · have := hmin e h; omega
      rw [hr] at this; cases this
  intro fuel
  induction fuel with
  | zero =>
    intro listed log st a w hs hlen hclo h hk
    have he : remOf ops.size listed = [] := List.eq_nil_of_length_eq_zero (by omega)
    refine ⟨?_, hend listed log st a w hs he h hk⟩
    cases hr : Region.ready .any ops listed with
    | nil => rfl
    | cons x xs =>
      have : x ∈ Region.ready .any ops listed := by rw [hr]; exact List.mem_cons_self
      have := ((mem_ready hs).1 this).1
      rw [he] at this; cases this
  | succ fuel ih =>
    intro listed log st a w hs hlen hclo h hk
    refine ⟨fun hr => hend listed log st a w hs (hready listed hs hr) h hk, fun i hi => ?_⟩
    obtain ⟨hrem, o, ho, hedge⟩ := (mem_ready hs).1 hi
    obtain ⟨hil, hiu⟩ := (mem_remOf hs).1 hrem
    obtain ⟨l1, l2, hl, hl1, hset⟩ := rem_split hs hrem
    have hk' := hk
    rw [hl] at hk'
    have hind : ∀ j ∈ l1, ∃ oj, nthOp ops.toList j = some oj ∧ Indep ops.toList i j o oj ∧ j ∉ (ancs ops.toList).getD i [] ∧ i ∉ (ancs ops.toList).getD j [] := by
      intro j hj
      obtain ⟨hji, hjr⟩ := hl1 j hj
      obtain ⟨hjl, hju⟩ := (mem_remOf hs).1 hjr
      have hoj : nthOp ops.toList j = some ops[j] := by rw [nthOp_toList]; simp [hjl]
      have hanc : ∀ x ∈ (ancs ops.toList).getD i [], listed.getD x false = true := anc_in (ops := ops.toList) (S := fun k => listed.getD k false = true) (fun k o h1 h2 => hclo k o h1 h2) ops.toList [] [] rfl rfl (fun k o _ _ x hx => by simp at hx) i o ho hedge
      have hnj : j ∉ (ancs ops.toList).getD i [] := fun h => by have := hanc j h; rw [hju] at this; cases this
      have hni : i ∉ (ancs ops.toList).getD j [] := fun h => by have := anc_lt hed hoj i h; omega
      refine ⟨ops[j], hoj, ?_, hnj, hni⟩
      have hpair := allBelow_spec (allBelow_spec hpr i (by simpa using hil)) j hji
      rcases Bool.or_eq_true _ _ ▸ hpair with hp | hp
      · exfalso
        exact hnj (memN_iff.1 hp)
      · exact (indep_spec hoj ho hp).symm
    have hfr := front ho l1 log st h.wf hind hk'
    simp only [opsD, opK_eqT] at hfr
    obtain ⟨_, hfr⟩ := cond_some.1 hfr
    obtain ⟨p, hp, hfr⟩ := opt_some.1 hfr
    obtain ⟨st', hu, hfr⟩ := opt_some.1 hfr
    refine op_sound hT hS hX hcall hn hg ho (by simp only [hiu]; decide) (fun j w hgd => ?_) (hpn _ _ ho) h hp hu ?_
    · obtain ⟨_, _, _, _, _, _, he⟩ := guards_spec hg ho hgd
      exact hedge j (he rfl)
    · intro a' w' h'
      refine ih (listed.setIfInBounds i true) _ st' a' w' (by simp [hs]) ?_ ?_ (h'.congr fun k => ?_) (by rw [hset]; exact hfr)
      · rw [hset]; rw [hl] at hlen; simp at hlen ⊢; omega
      · intro k ok hk1 hok e he
        rw [getD_set (by omega)] at hk1 ⊢
        by_cases e1 : e = i
        · simp [e1]
        · rw [if_neg e1]
          by_cases e2 : k = i
          · subst e2; rw [ho] at hok; injection hok with hok; subst hok; exact hedge e he
          · rw [if_neg e2] at hk1; exact hclo k ok hk1 hok e he
      · rw [getD_set (by omega)]
        by_cases e : k = i
        · simp [e]
        · simp [e]

/-- How state and memory stand between regions. -/
structure SI (E : Env) (X : Nat → Prop) (w0 : World) (Mx : Mem) (pv : Nat → Option Value) (st : St) (a : Act) (w : World) : Prop where
  ex : ∃ ι M, HRel E.tt X w0 Mx ι M st.objs w ∧ ∀ t s, st.slots t = some s → SVRel E.tt ι M s (a.eval (.tmp t))
  wf : WF st
  size : a.tmps.size = st.n
  defers : a.defers = []
  pin : ∀ p v, pv p = some v → a.eval (.tmp p) = v

theorem dropGuarded_spec : ∀ (ops : List Oper) (f : Nat → Option SV) (t : Nat) (s : SV), dropGuarded ops f t = some s → f t = some s ∧ ∀ (o : Oper), o ∈ ops → o.dst = some t → o.guard = none := by
  intro ops
  induction ops with
  | nil => intro f t s h; exact ⟨h, fun o ho => by cases ho⟩
  | cons o r ih =>
    intro f t s h
    have key : ∀ f', dropGuarded r f' t = some s → f' = f → (o.dst = some t → o.guard = none) → f t = some s ∧ ∀ (o' : Oper), o' ∈ o :: r → o'.dst = some t → o'.guard = none := by
      intro f' h' e ho
      subst e
      obtain ⟨h1, h2⟩ := ih f' t s h'
      refine ⟨h1, fun o' ho' hd => ?_⟩
      rcases List.mem_cons.1 ho' with rfl | ho'
      · exact ho hd
      · exact h2 o' ho' hd
    simp only [dropGuarded] at h
    cases hg : o.guard with
    | none => rw [hg] at h; exact key f h rfl (fun _ => hg)
    | some g =>
      cases hu : o.dst with
      | none => rw [hg, hu] at h; exact key f h rfl (fun e => by rw [hu] at e; cases e)
      | some u =>
        rw [hg, hu] at h
        simp only at h
        by_cases e : t = u
        · subst e; rw [put_same] at h; cases h
        · rw [put_other _ _ _ e] at h
          refine key f h rfl (fun e2 => ?_)
          rw [hu] at e2; injection e2 with e2; exact absurd e2.symm e

theorem RI.of_si {ops : List Oper} {st : St} {a : Act} {w : World} (h : SI E X w0 Mx pv st a w) : RI E X w0 Mx pv ops (fun _ => False) st a w := by
  obtain ⟨⟨ι, M, H, hs⟩, hwf, hsz, hdf, hpin⟩ := h
  exact ⟨⟨ι, M, H, fun t s ht _ => hs t s ht⟩, fun i o t b h => h.elim, fun i o j w h => h.elim, hwf, hsz, hdf, hpin⟩
theorem RI.to_si {ops : List Oper} {done : Nat → Prop} {st : St} {a : Act} {w : World} (h : RI E X w0 Mx pv ops done st a w) : SI E X w0 Mx pv (endRegion ops st) a w := by
  obtain ⟨⟨ι, M, H, hs⟩, hgi, hcl, hwf, hsz, hdf, hpin⟩ := h
  refine ⟨⟨ι, M, H, fun t s ht => ?_⟩, ⟨?_, hwf.cells⟩, hsz, hdf, hpin⟩
  · obtain ⟨h1, h2⟩ := dropGuarded_spec ops st.slots t s ht
    refine hs t s h1 fun i o _ hi hd => ?_
    rw [chain_none hi (h2 o (by rw [nthOp_get] at hi; exact List.mem_of_getElem? hi) hd)]
    intro p hp; cases hp
  · intro t s ht i hi
    exact hwf.slots t s (dropGuarded_spec ops st.slots t s ht).1 i hi

/-- A region. -/
theorem region_sound {α : Type} (hm : P.follows .mixedOrders = true) (hT : TTok P E.tt) {W0 : World} (hS : Same W0 w0) (hX : ∀ b, X b → W0.heap.size ≤ b) (hcall : CallOK P E W0 callk) {id : Nat} {ops : Array Oper} {draw : Bool} (hok : okRegion ops.toList draw = true) (hpn : ∀ i o, nthOp ops.toList i = some o → ∀ t, o.dst = some t → pv t = none) {Q : Exit → Act → World → Prop} {K : St → Option α} {r : α}
    (hQ : ∀ st' a' w', SI E X w0 Mx pv (endRegion ops.toList st') a' w' → K st' = some r → Q .normal a' w') {st : St} {a : Act} {w : World} (h : SI E X w0 Mx pv st a w) (hk : cond draw (opsD E callk ops.toList (upFrom 0 ops.size) [] st K) (opsK E callk ops.toList false (upFrom 0 ops.size) st K) = some r) :
    (Code.region id ops draw).wp P Q a w := by
  unfold okRegion at hok
  simp only [Bool.and_eq_true, Bool.or_eq_true, Bool.not_eq_true'] at hok
  obtain ⟨hn, hg, hd⟩ := hok
  cases draw with
  | false =>
    apply wp_region
    rw [List.range_eq_range']
    refine ops_sound hT hS hX hcall hn hg hpn (fun st' a' w' h' hk' => hQ st' a' w' h'.to_si hk') ops.size 0 st a w (by omega) ((RI.of_si h).congr fun k => ⟨fun h => h.elim, fun h => absurd h (Nat.not_lt_zero _)⟩) hk
  | true =>
    rcases hd with hd | ⟨hed, hpr⟩
    · cases hd
    apply wp_region_any hm
    have hrem : remOf ops.size (Array.replicate ops.size false) = upFrom 0 ops.size := by
      have h1 : remOf ops.size (Array.replicate ops.size false) = List.range ops.size := by
        unfold remOf
        apply List.filter_eq_self.2
        intro i hi
        have := List.mem_range.1 hi
        simp [Array.getD_eq_getD_getElem?, this]
      have h2 : ∀ n i, upFrom i n = List.range' i n := by
        intro n
        induction n with
        | zero => intro i; rfl
        | succ n ih => intro i; simp only [upFrom, ih, List.range'_succ]
      rw [h1, h2, List.range_eq_range']
    have hfalse : ∀ k, (Array.replicate ops.size false).getD k false = false := by
      intro k
      simp only [Array.getD_eq_getD_getElem?, Array.getElem?_replicate]
      split <;> rfl
    have h' : SI E X w0 Mx pv st a { w with drawn := w.drawn + 1 } := by
      obtain ⟨⟨ι, M, H, hs⟩, hwf, hsz, hdf, hpin⟩ := h
      refine ⟨⟨ι, M, ⟨fun i o hi => (H.obj i o hi).same (fun _ _ => rfl), H.disj, H.own, H.mem, H.memx, H.memB, H.os, H.tape, H.output, H.size, H.keep⟩, hs⟩, hwf, hsz, hdf, hpin⟩
    refine any_sound hT hS hX hcall hn hg hed hpr hpn (fun st' a' w' h' hk' => hQ st' a' w' h'.to_si hk') ops.size _ [] st a _ (by simp) ?_ (fun k o h1 => by rw [hfalse] at h1; cases h1) ((RI.of_si h').congr fun k => ?_) (by rw [hrem]; exact hk)
    · rw [hrem]
      have h2 : ∀ n i, (upFrom i n).length = n := by
        intro n
        induction n with
        | zero => intro i; rfl
        | succ n ih => intro i; simp [upFrom, ih]
      rw [h2]; omega
    · rw [hfalse]; simp

end
end Go.Proofs.YtjofkhdnidjleabDoor.DS
