/- The data-level semantics: plain data, an interpreter of the program over them, and its soundness; part 5. -/
import Derived.Test.YtbinmfenhbpdnaaF4
import Derived.LoopN
set_option linter.unusedVariables false
set_option linter.unusedSimpArgs false
namespace Go.Proofs.Ytbinmfenhbpdnaa.DS

section
variable {P : Program} {E : Env} {X : Nat → Prop} {w0 : World} {Mx : Mem} {pv : Nat → Option Value} {callk : Nat → List D → R}

def remOf (n : Nat) (listed : Array Bool) : List Nat := (List.range n).filter fun i => !listed.getD i true

theorem mem_remOf {n : Nat} {listed : Array Bool} {i : Nat} (hs : listed.size = n) : i ∈ remOf n listed ↔ i < n ∧ listed.getD i false = false := by
  unfold remOf
  simp only [List.mem_filter, List.mem_range, Bool.not_eq_true']
  constructor
  · rintro ⟨h1, h2⟩
    refine ⟨h1, ?_⟩
    simp only [Array.getD_eq_getD_getElem?] at h2 ⊢
    rw [Array.getElem?_eq_getElem (by omega)] at h2 ⊢
    exact h2
  · rintro ⟨h1, h2⟩
    refine ⟨h1, ?_⟩
    simp only [Array.getD_eq_getD_getElem?] at h2 ⊢
    rw [Array.getElem?_eq_getElem (by omega)] at h2 ⊢
    exact h2
theorem getD_set {listed : Array Bool} {i k : Nat} (h : i < listed.size) (d : Bool) : (listed.setIfInBounds i true).getD k d = if k = i then true else listed.getD k d := by
  simp only [Array.getD_eq_getD_getElem?, Array.getElem?_setIfInBounds]
  by_cases e : i = k
  · subst e; simp [h]
  · have e2 : ¬ k = i := fun h => e h.symm
    simp [e, e2]

theorem mem_anyEdges {o : Oper} {e : Nat} : e ∈ anyEdges o ↔ ∃ x ∈ o.after.toList, Region.binds .any x = true ∧ x.on = e := by
  simp [anyEdges, and_assoc]
theorem mem_ready {ops : Array Oper} {listed : Array Bool} (hs : listed.size = ops.size) {i : Nat} : i ∈ Region.ready .any ops listed ↔ i ∈ remOf ops.size listed ∧ ∃ o, nthOp ops.toList i = some o ∧ ∀ e ∈ anyEdges o, listed.getD e false = true := by
  unfold Region.ready remOf
  simp only [List.mem_filter, List.mem_range, Bool.and_eq_true]
  constructor
  · rintro ⟨h1, h2, h3⟩
    refine ⟨⟨h1, h2⟩, ops[i], by rw [nthOp_toList]; simp [h1], ?_⟩
    rw [Array.getElem?_eq_getElem h1] at h3
    simp only [Option.map_some, Option.getD_some, Array.all_eq_true_iff_forall_mem] at h3
    intro e he
    obtain ⟨x, hx, hb, rfl⟩ := mem_anyEdges.1 he
    have := h3 x (Array.mem_toList_iff.1 hx)
    rw [hb] at this
    simpa using this
  · rintro ⟨⟨h1, h2⟩, o, ho, hedge⟩
    refine ⟨h1, h2, ?_⟩
    rw [nthOp_toList] at ho
    rw [ho]
    simp only [Option.map_some, Option.getD_some, Array.all_eq_true_iff_forall_mem]
    intro x hx
    cases hb : Region.binds .any x with
    | false => rfl
    | true =>
      have := hedge x.on (mem_anyEdges.2 ⟨x, Array.mem_toList_iff.2 hx, hb, rfl⟩)
      rw [this]; rfl

theorem rem_split {n : Nat} {listed : Array Bool} (hs : listed.size = n) {i : Nat} (hi : i ∈ remOf n listed) : ∃ l1 l2, remOf n listed = l1 ++ i :: l2 ∧ (∀ j ∈ l1, j < i ∧ j ∈ remOf n listed) ∧ remOf n (listed.setIfInBounds i true) = l1 ++ l2 := by
  obtain ⟨l1, l2, hl⟩ := List.append_of_mem hi
  have hp : (remOf n listed).Pairwise (· < ·) := (List.pairwise_lt_range).filter _
  have hin := (mem_remOf hs).1 hi
  rw [hl] at hp
  obtain ⟨p1, p2, p3⟩ := List.pairwise_append.1 hp
  have p4 := (List.pairwise_cons.1 p2).1
  refine ⟨l1, l2, hl, fun j hj => ⟨p3 j hj i List.mem_cons_self, by rw [hl]; exact List.mem_append_left _ hj⟩, ?_⟩
  have : remOf n (listed.setIfInBounds i true) = (remOf n listed).filter (fun k => !(Nat.beq k i)) := by
    unfold remOf
    rw [List.filter_filter]
    apply List.filter_congr
    intro k hk
    rw [getD_set (by omega)]
    by_cases e : k = i
    · subst e; simp [beq_self]
    · simp [e, beq_false.2 e]
  rw [this, hl, List.filter_append, List.filter_cons]
  simp only [beq_self, Bool.not_true]
  have f1 : l1.filter (fun k => !(Nat.beq k i)) = l1 := List.filter_eq_self.2 fun k hk => by
    have := p3 k hk i List.mem_cons_self
    rw [beq_false.2 (by omega)]; rfl
  have f2 : l2.filter (fun k => !(Nat.beq k i)) = l2 := List.filter_eq_self.2 fun k hk => by
    have := p4 k hk
    rw [beq_false.2 (by omega)]; rfl
  rw [f1, f2]; rfl

theorem edges_spec {ops : List Oper} (h : edgesOk ops = true) {i : Nat} {o : Oper} (hi : nthOp ops i = some o) {e : Nat} (he : e ∈ anyEdges o) : e < i := by
  have := allBelow_spec h i (nthOp_lt hi)
  rw [hi] at this
  exact Nat.le_of_ble_eq_true (List.all_eq_true.1 this e he)

theorem anc_lt {ops : List Oper} (h : edgesOk ops = true) {j : Nat} {o : Oper} (hj : nthOp ops j = some o) : ∀ x ∈ (ancs ops).getD j [], x < j := by
  have := anc_in (ops := ops) (S := fun k => k < j) (fun k o hk ho e he => by have := edges_spec h ho he; omega) ops [] [] rfl rfl (fun k o _ _ x hx => by simp at hx) j o hj (fun e he => edges_spec h hj he)
  exact this

theorem any_sound {α : Type} (hT : TTok P E.tt) {W0 : World} (hS : Same W0 w0) (hX : ∀ b, X b → W0.heap.size ≤ b) (hcall : CallOK P E W0 callk) {ops : Array Oper} (hn : nodupN (dstsOf ops.toList) = true) (hg : guardsOk ops.toList true = true) (hed : edgesOk ops.toList = true) (hpr : pairsOk ops.toList (ancs ops.toList) = true) (hpn : ∀ i o, nthOp ops.toList i = some o → ∀ t, o.dst = some t → pv t = none)
    {Q : Exit → Act → World → Prop} {K : St → Option α} {r : α} (hQ : ∀ st' a' w', RI E X w0 Mx pv ops.toList (fun k => k < ops.size) st' a' w' → K st' = some r → Q .normal a' w') :
    ∀ fuel listed log st a w, listed.size = ops.size → (remOf ops.size listed).length ≤ fuel → (∀ k o, listed.getD k false = true → nthOp ops.toList k = some o → ∀ e ∈ anyEdges o, listed.getD e false = true) →
    RI E X w0 Mx pv ops.toList (fun k => listed.getD k false = true) st a w → opsD E callk ops.toList (remOf ops.size listed) log st K = some r → wpAny P .any ops Q fuel listed a w := by
  have hend : ∀ (listed : Array Bool) log st a w, listed.size = ops.size → remOf ops.size listed = [] → RI E X w0 Mx pv ops.toList (fun k => listed.getD k false = true) st a w → opsD E callk ops.toList (remOf ops.size listed) log st K = some r → Q .normal a w := by
    intro listed log st a w hs he h hk
    rw [he] at hk
    refine hQ st a w (h.congr fun k => ?_) hk
    constructor
    · intro hk
      rw [Array.getD_eq_getD_getElem?] at hk
      by_cases h1 : k < listed.size
      · omega
      · rw [Array.getElem?_eq_none (by omega)] at hk; cases hk
    · intro hk
      cases hl : listed.getD k false with
      | true => rfl
      | false =>
        have := (mem_remOf hs).2 ⟨hk, hl⟩
        rw [he] at this; cases this
  have hready : ∀ (listed : Array Bool), listed.size = ops.size → Region.ready .any ops listed = [] → remOf ops.size listed = [] := by
    intro listed hs hr
    cases hl : remOf ops.size listed with
    | nil => rfl
    | cons m rest =>
      exfalso
      have hm : m ∈ remOf ops.size listed := by rw [hl]; exact List.mem_cons_self
      have hp : (remOf ops.size listed).Pairwise (· < ·) := (List.pairwise_lt_range).filter _
      rw [hl] at hp
      have hmin := (List.pairwise_cons.1 hp).1
      have hmlt := ((mem_remOf hs).1 hm).1
      have ho : nthOp ops.toList m = some ops[m] := by rw [nthOp_toList]; simp [hmlt]
      have : m ∈ Region.ready .any ops listed := by
        refine (mem_ready hs).2 ⟨hm, ops[m], ho, fun e he => ?_⟩
        have hlt := edges_spec hed ho he
        cases hle : listed.getD e false with
        | true => rfl
        | false =>
          have := (mem_remOf hs).2 ⟨by omega, hle⟩
          rw [hl] at this
          rcases List.mem_cons.1 this with h | h
          · omega
          · have := hmin e h; omega
      rw [hr] at this; cases this
  intro fuel
  induction fuel with
  | zero =>
    intro listed log st a w hs hlen hclo h hk
    have he : remOf ops.size listed = [] := List.eq_nil_of_length_eq_zero (by omega)
    refine ⟨?_, hend listed log st a w hs he h hk⟩
    cases hr : Region.ready .any ops listed with
    | nil => rfl
    | cons x xs =>
      have : x ∈ Region.ready .any ops listed := by rw [hr]; exact List.mem_cons_self
      have := ((mem_ready hs).1 this).1
      rw [he] at this; cases this
  | succ fuel ih =>
    intro listed log st a w hs hlen hclo h hk
    refine ⟨fun hr => hend listed log st a w hs (hready listed hs hr) h hk, fun i hi => ?_⟩
    obtain ⟨hrem, o, ho, hedge⟩ := (mem_ready hs).1 hi
    obtain ⟨hil, hiu⟩ := (mem_remOf hs).1 hrem
    obtain ⟨l1, l2, hl, hl1, hset⟩ := rem_split hs hrem
    have hk' := hk
    rw [hl] at hk'
    have hind : ∀ j ∈ l1, ∃ oj, nthOp ops.toList j = some oj ∧ Indep ops.toList i j o oj ∧ j ∉ (ancs ops.toList).getD i [] ∧ i ∉ (ancs ops.toList).getD j [] := by
      intro j hj
      obtain ⟨hji, hjr⟩ := hl1 j hj
      obtain ⟨hjl, hju⟩ := (mem_remOf hs).1 hjr
      have hoj : nthOp ops.toList j = some ops[j] := by rw [nthOp_toList]; simp [hjl]
      have hanc : ∀ x ∈ (ancs ops.toList).getD i [], listed.getD x false = true := anc_in (ops := ops.toList) (S := fun k => listed.getD k false = true) (fun k o h1 h2 => hclo k o h1 h2) ops.toList [] [] rfl rfl (fun k o _ _ x hx => by simp at hx) i o ho hedge
      have hnj : j ∉ (ancs ops.toList).getD i [] := fun h => by have := hanc j h; rw [hju] at this; cases this
      have hni : i ∉ (ancs ops.toList).getD j [] := fun h => by have := anc_lt hed hoj i h; omega
      refine ⟨ops[j], hoj, ?_, hnj, hni⟩
      have hpair := allBelow_spec (allBelow_spec hpr i (by simpa using hil)) j hji
      rcases Bool.or_eq_true _ _ ▸ hpair with hp | hp
      · exfalso
        exact hnj (memN_iff.1 hp)
      · exact (indep_spec hoj ho hp).symm
    have hfr := front ho l1 log st h.wf hind hk'
    simp only [opsD, opK_eqT] at hfr
    obtain ⟨_, hfr⟩ := cond_some.1 hfr
    obtain ⟨p, hp, hfr⟩ := opt_some.1 hfr
    obtain ⟨st', hu, hfr⟩ := opt_some.1 hfr
    refine op_sound hT hS hX hcall hn hg ho (by simp only [hiu]; decide) (fun j w hgd => ?_) (hpn _ _ ho) h hp hu ?_
    · obtain ⟨_, _, _, _, _, _, he⟩ := guards_spec hg ho hgd
      exact hedge j (he rfl)
    · intro a' w' h'
      refine ih (listed.setIfInBounds i true) _ st' a' w' (by simp [hs]) ?_ ?_ (h'.congr fun k => ?_) (by rw [hset]; exact hfr)
      · rw [hset]; rw [hl] at hlen; simp at hlen ⊢; omega
      · intro k ok hk1 hok e he
        rw [getD_set (by omega)] at hk1 ⊢
        by_cases e1 : e = i
        · simp [e1]
        · rw [if_neg e1]
          by_cases e2 : k = i
          · subst e2; rw [ho] at hok; injection hok with hok; subst hok; exact hedge e he
          · rw [if_neg e2] at hk1; exact hclo k ok hk1 hok e he
      · rw [getD_set (by omega)]
        by_cases e : k = i
        · simp [e]
        · simp [e]

/-- How state and memory stand between regions. -/
structure SI (E : Env) (X : Nat → Prop) (w0 : World) (Mx : Mem) (pv : Nat → Option Value) (st : St) (a : Act) (w : World) : Prop where
  ex : ∃ ι M, HRel E.tt X w0 Mx ι M st.objs w ∧ ∀ t s, st.slots t = some s → SVRel E.tt ι M s (a.eval (.tmp t))
  wf : WF st
  size : a.tmps.size = st.n
  defers : a.defers = []
  pin : ∀ p v, pv p = some v → a.eval (.tmp p) = v

theorem dropGuarded_spec : ∀ (ops : List Oper) (f : Nat → Option SV) (t : Nat) (s : SV), dropGuarded ops f t = some s → f t = some s ∧ ∀ (o : Oper), o ∈ ops → o.dst = some t → o.guard = none := by
  intro ops
  induction ops with
  | nil => intro f t s h; exact ⟨h, fun o ho => by cases ho⟩
  | cons o r ih =>
    intro f t s h
    have key : ∀ f', dropGuarded r f' t = some s → f' = f → (o.dst = some t → o.guard = none) → f t = some s ∧ ∀ (o' : Oper), o' ∈ o :: r → o'.dst = some t → o'.guard = none := by
      intro f' h' e ho
      subst e
      obtain ⟨h1, h2⟩ := ih f' t s h'
      refine ⟨h1, fun o' ho' hd => ?_⟩
      rcases List.mem_cons.1 ho' with rfl | ho'
      · exact ho hd
      · exact h2 o' ho' hd
    simp only [dropGuarded] at h
    cases hg : o.guard with
    | none => rw [hg] at h; exact key f h rfl (fun _ => hg)
    | some g =>
      cases hu : o.dst with
      | none => rw [hg, hu] at h; exact key f h rfl (fun e => by rw [hu] at e; cases e)
      | some u =>
        rw [hg, hu] at h
        simp only at h
        by_cases e : t = u
        · subst e; rw [put_same] at h; cases h
        · rw [put_other _ _ _ e] at h
          refine key f h rfl (fun e2 => ?_)
          rw [hu] at e2; injection e2 with e2; exact absurd e2.symm e

theorem RI.of_si {ops : List Oper} {st : St} {a : Act} {w : World} (h : SI E X w0 Mx pv st a w) : RI E X w0 Mx pv ops (fun _ => False) st a w := by
  obtain ⟨⟨ι, M, H, hs⟩, hwf, hsz, hdf, hpin⟩ := h
  exact ⟨⟨ι, M, H, fun t s ht _ => hs t s ht⟩, fun i o t b h => h.elim, fun i o j w h => h.elim, hwf, hsz, hdf, hpin⟩
theorem RI.to_si {ops : List Oper} {done : Nat → Prop} {st : St} {a : Act} {w : World} (h : RI E X w0 Mx pv ops done st a w) : SI E X w0 Mx pv (endRegion ops st) a w := by
  obtain ⟨⟨ι, M, H, hs⟩, hgi, hcl, hwf, hsz, hdf, hpin⟩ := h
  refine ⟨⟨ι, M, H, fun t s ht => ?_⟩, ⟨?_, hwf.cells⟩, hsz, hdf, hpin⟩
  · obtain ⟨h1, h2⟩ := dropGuarded_spec ops st.slots t s ht
    refine hs t s h1 fun i o _ hi hd => ?_
    rw [chain_none hi (h2 o (by rw [nthOp_get] at hi; exact List.mem_of_getElem? hi) hd)]
    intro p hp; cases hp
  · intro t s ht i hi
    exact hwf.slots t s (dropGuarded_spec ops st.slots t s ht).1 i hi

/-- A region. -/
theorem region_sound {α : Type} (hm : P.follows .mixedOrders = true) (hT : TTok P E.tt) {W0 : World} (hS : Same W0 w0) (hX : ∀ b, X b → W0.heap.size ≤ b) (hcall : CallOK P E W0 callk) {id : Nat} {ops : Array Oper} {draw : Bool} (hok : okRegion ops.toList draw = true) (hpn : ∀ i o, nthOp ops.toList i = some o → ∀ t, o.dst = some t → pv t = none) {Q : Exit → Act → World → Prop} {K : St → Option α} {r : α}
    (hQ : ∀ st' a' w', SI E X w0 Mx pv (endRegion ops.toList st') a' w' → K st' = some r → Q .normal a' w') {st : St} {a : Act} {w : World} (h : SI E X w0 Mx pv st a w) (hk : cond draw (opsD E callk ops.toList (upFrom 0 ops.size) [] st K) (opsK E callk ops.toList false (upFrom 0 ops.size) st K) = some r) :
    (Code.region id ops draw).wp P Q a w := by
  unfold okRegion at hok
  simp only [Bool.and_eq_true, Bool.or_eq_true, Bool.not_eq_true'] at hok
  obtain ⟨hn, hg, hd⟩ := hok
  cases draw with
  | false =>
    apply wp_region
    rw [List.range_eq_range']
    refine ops_sound hT hS hX hcall hn hg hpn (fun st' a' w' h' hk' => hQ st' a' w' h'.to_si hk') ops.size 0 st a w (by omega) ((RI.of_si h).congr fun k => ⟨fun h => h.elim, fun h => absurd h (Nat.not_lt_zero _)⟩) hk
  | true =>
    rcases hd with hd | ⟨hed, hpr⟩
    · cases hd
    apply wp_region_any hm
    have hrem : remOf ops.size (Array.replicate ops.size false) = upFrom 0 ops.size := by
      have h1 : remOf ops.size (Array.replicate ops.size false) = List.range ops.size := by
        unfold remOf
        apply List.filter_eq_self.2
        intro i hi
        have := List.mem_range.1 hi
        simp [Array.getD_eq_getD_getElem?, this]
      have h2 : ∀ n i, upFrom i n = List.range' i n := by
        intro n
        induction n with
        | zero => intro i; rfl
        | succ n ih => intro i; simp only [upFrom, ih, List.range'_succ]
      rw [h1, h2, List.range_eq_range']
    have hfalse : ∀ k, (Array.replicate ops.size false).getD k false = false := by
      intro k
      simp only [Array.getD_eq_getD_getElem?, Array.getElem?_replicate]
      split <;> rfl
    have h' : SI E X w0 Mx pv st a { w with drawn := w.drawn + 1 } := by
      obtain ⟨⟨ι, M, H, hs⟩, hwf, hsz, hdf, hpin⟩ := h
      refine ⟨⟨ι, M, ⟨fun i o hi => (H.obj i o hi).same (fun _ _ => rfl), H.disj, H.own, H.mem, H.memx, H.memB, H.os, H.tape, H.output, H.size, H.keep⟩, hs⟩, hwf, hsz, hdf, hpin⟩
    refine any_sound hT hS hX hcall hn hg hed hpr hpn (fun st' a' w' h' hk' => hQ st' a' w' h'.to_si hk') ops.size _ [] st a _ (by simp) ?_ (fun k o h1 => by rw [hfalse] at h1; cases h1) ((RI.of_si h').congr fun k => ?_) (by rw [hrem]; exact hk)
    · rw [hrem]
      have h2 : ∀ n i, (upFrom i n).length = n := by
        intro n
        induction n with
        | zero => intro i; rfl
        | succ n ih => intro i; simp [upFrom, ih]
      rw [h2]; omega
    · rw [hfalse]; simp

end
end Go.Proofs.Ytbinmfenhbpdnaa.DS

namespace Go.Proofs.Ytbinmfenhbpdnaa.DS

section
variable {P : Program} {E : Env} {X : Nat → Prop} {w0 : World} {Mx : Mem} {pv : Nat → Option Value}

theorem frzCells_get (id : Nat) (e : TypeId) (es : List D) (l : List SV) (i : Nat) : (frzCells id e es l)[i]? = (l[i]?).map (frzSV0 id e es) := by
  induction l generalizing i with
  | nil => simp [frzCells]
  | cons s r ih => cases i <;> simp [frzCells, ih]
theorem frzCells_length (id : Nat) (e : TypeId) (es : List D) (l : List SV) : (frzCells id e es l).length = l.length := by
  induction l with
  | nil => rfl
  | cons s r ih => simp [frzCells, ih]
theorem refsOf_frz0 {id : Nat} {e : TypeId} {es : List D} {s : SV} {i : Nat} (h : i ∈ refsOf (frzSV0 id e es s)) : i ∈ refsOf s ∧ i ≠ id := by
  unfold frzSV0 at h
  split at h
  · rename_i j
    cases hb : Nat.beq j id with
    | true => rw [hb] at h; cases h
    | false =>
      rw [hb] at h
      simp only [cond_false, refsOf, refs0, List.mem_singleton] at h
      subst h
      exact ⟨by simp [refsOf, refs0], beq_false.1 hb⟩
  · cases h
  · cases hn : s.names id with
    | true => rw [hn] at h; cases h
    | false =>
      rw [hn] at h
      refine ⟨h, fun e => ?_⟩
      subst e
      exact memN_false hn h
theorem refs0_frz {id : Nat} {e : TypeId} {es : List D} {s : SV} {i : Nat} (h : i ∈ refs0 (frzSV0 id e es s)) : i ∈ refs0 s ∧ i ≠ id := by
  have := refsOf_frz0 (refs_of_refs0 h)
  refine ⟨?_, this.2⟩
  cases s with
  | tup l =>
    exfalso
    unfold frzSV0 at h
    simp only at h
    cases hn : (SV.tup l).names id with
    | true => rw [hn] at h; cases h
    | false => rw [hn] at h; cases h
  | sag t ks l =>
    exfalso
    unfold frzSV0 at h
    simp only at h
    cases hn : (SV.sag t ks l).names id with
    | true => rw [hn] at h; cases h
    | false => rw [hn] at h; cases h
  | _ => exact this.1
theorem refs_frz {id : Nat} {e : TypeId} {es : List D} {s : SV} {i : Nat} (h : i ∈ refsOf (frzSV id e es s)) : i ∈ refsOf s ∧ i ≠ id := by
  cases s with
  | sag t ks l =>
    obtain ⟨s1, hs1, hi⟩ := mem_refsL.1 (show i ∈ refsL (frzCells id e es l) from h)
    obtain ⟨n, hn⟩ := List.mem_iff_getElem?.1 hs1
    rw [frzCells_get, Option.map_eq_some_iff] at hn
    obtain ⟨s0, hs0, rfl⟩ := hn
    obtain ⟨h1, h2⟩ := refs0_frz hi
    exact ⟨mem_refsL.2 ⟨s0, List.mem_of_getElem? hs0, h1⟩, h2⟩
  | _ => exact refsOf_frz0 (e := e) (es := es) h
theorem frz_rel0 {tt : TT} {ι : Nat → Value} {M M' : Mem} {id : Nat} {e : TypeId} {es : List D} {s : SV} {v : Value} (h : SVRel0 tt ι M s v) (hM : ∀ ad x, M ad = some x → M' ad = some x) (hr : Rep tt M' (.slice e) (ι id) (.list es)) : SVRel0 tt ι M' (frzSV0 id e es s) v := by
  have hgen : SVRel0 tt ι M' (cond (s.names id) .gone s) v := by
    cases s.names id with
    | true => trivial
    | false => exact h.congr (fun _ _ => rfl) hM
  cases s with
  | own j =>
    simp only [frzSV0]
    cases hb : Nat.beq j id with
    | true =>
      have := beq_iff.1 hb
      subst this
      obtain ⟨rfl, _⟩ : v = ι j ∧ _ := h
      exact hr
    | false => exact h.congr (fun _ _ => rfl) hM
  | val k d => exact h.congr (fun _ _ => rfl) hM
  | _ => exact hgen
theorem frz_rel {tt : TT} {ι : Nat → Value} {M M' : Mem} {id : Nat} {e : TypeId} {es : List D} {s : SV} {v : Value} (h : SVRel tt ι M s v) (hM : ∀ ad x, M ad = some x → M' ad = some x) (hr : Rep tt M' (.slice e) (ι id) (.list es)) : SVRel tt ι M' (frzSV id e es s) v := by
  have hgen : SVRel tt ι M' (cond (s.names id) .gone s) v := by
    cases s.names id with
    | true => trivial
    | false => exact h.congr (fun _ _ => rfl) hM
  cases s with
  | own j => exact .of0 (frz_rel0 (s := .own j) h hM hr)
  | val k d => exact h.congr (fun _ _ => rfl) hM
  | sag t ks l =>
    obtain ⟨ti, vs, h1, h2, h3, h4, h5, h6, h7⟩ := h
    refine ⟨ti, vs, h1, h2, h3, h4, by rw [frzCells_length]; exact h5, by rw [frzCells_length]; exact h6, fun i s x hs hx => ?_⟩
    rw [frzCells_get, Option.map_eq_some_iff] at hs
    obtain ⟨s0, hs0, rfl⟩ := hs
    exact frz_rel0 (h7 i s0 x hs0 hx) hM hr
  | _ => exact hgen
theorem frz_obj {tt : TT} {ι : Nat → Value} {M M' : Mem} {w : World} {id : Nat} {e : TypeId} {es : List D} {i : Nat} {o : Obj} (h : ObjRel tt ι M w i o) (hM : ∀ ad x, M ad = some x → M' ad = some x) (hr : Rep tt M' (.slice e) (ι id) (.list es)) : ObjRel tt ι M' w i (frzObj id e es o) := by
  have hc := h.congr (ι' := ι) (M' := M') (w' := w) rfl (fun _ _ => rfl) hM (fun _ _ => rfl)
  cases o with
  | arr e es => exact hc
  | box t c =>
    cases c with
    | whole d => exact hc
    | cells l =>
      obtain ⟨ti, b, cs, h1, h2, h3, h5, h6, h7⟩ := h
      refine ⟨ti, b, cs, h1, h2, h3, h5, by rw [frzCells_length]; exact h6, fun j s c hs hcj => ?_⟩
      rw [frzCells_get, Option.map_eq_some_iff] at hs
      obtain ⟨s0, hs0, rfl⟩ := hs
      exact frz_rel0 (h7 j s0 c hs0 hcj) hM hr

theorem freeze_sound {st st' : St} {a : Act} {w : World} (h : SI E X w0 Mx pv st a w) {id : Nat} (hf : st.freeze id = some st') : SI E X w0 Mx pv st' a w := by
  unfold St.freeze at hf
  cases ho : st.objs id with
  | none => rw [ho] at hf; cases hf
  | some o =>
    cases o with
    | box t c => rw [ho] at hf; cases hf
    | arr e es =>
      rw [ho] at hf
      injection hf with hf; subst hf
      obtain ⟨⟨ι, M, H, hs⟩, hwf, hsz, hdf, hpin⟩ := h
      obtain ⟨ei, he, _, har⟩ := H.obj id _ ho
      obtain ⟨M', hM, hMo, hMc, hr⟩ := frz_rep he har (fun b hb off sp => (H.own id _ b ho hb).2 off sp)
      have hobj : ∀ i o', put (fun i => omap (frzObj id e es) (st.objs i)) id none i = some o' → i ≠ id ∧ ∃ o, st.objs i = some o ∧ o' = frzObj id e es o := by
        intro i o' h
        by_cases hi : i = id
        · subst hi; rw [put_same] at h; cases h
        · rw [put_other _ _ _ hi] at h
          cases hob : st.objs i with
          | none => rw [hob] at h; cases h
          | some o => rw [hob] at h; injection h with h; exact ⟨hi, o, rfl, h.symm⟩
      have hin : ∀ i o, i ≠ id → st.objs i = some o → ∃ o', put (fun i => omap (frzObj id e es) (st.objs i)) id none i = some o' := by
        intro i o hi ho'
        rw [put_other _ _ _ hi, ho']; exact ⟨_, rfl⟩
      refine ⟨⟨ι, M', ⟨?_, ?_, ?_, ?_, fun ad v h => hM ad v (H.memx ad v h), ?_, H.os, H.tape, H.output, H.size, H.keep⟩, ?_⟩, ⟨?_, ?_⟩, hsz, hdf, hpin⟩
      · intro i o' h
        obtain ⟨hi, o, ho', rfl⟩ := hobj i o' h
        exact frz_obj (H.obj i o ho') hM hr
      · intro i j oi oj b hi hj hij hbi hbj
        obtain ⟨_, o1, h1, _⟩ := hobj i oi hi
        obtain ⟨_, o2, h2, _⟩ := hobj j oj hj
        exact H.disj i j o1 o2 b h1 h2 hij hbi hbj
      · intro i o' b h hb
        obtain ⟨hi, o, ho', _⟩ := hobj i o' h
        obtain ⟨q1, q2⟩ := H.own i o b ho' hb
        refine ⟨q1, fun off sp => ?_⟩
        rw [hMo ⟨b, off, sp⟩ (fun e => H.disj i id o _ b ho' ho hi hb e)]
        exact q2 off sp
      · intro ad v hv
        rcases hMc ad v hv with h | h
        · exact H.mem ad v h
        · exact h
      · intro ad hb hX
        rw [hMo ad (fun e => ?_)]
        · exact H.memB ad hb hX
        · rcases (H.own id _ ad.block ho e).1 with h | h
          · omega
          · exact hX h
      · intro t s ht
        simp only at ht
        cases hst : st.slots t with
        | none => rw [hst] at ht; cases ht
        | some s0 =>
          rw [hst] at ht; injection ht with ht; subst ht
          exact frz_rel (hs t s0 hst) hM hr
      · intro t s ht i hi
        simp only at ht ⊢
        cases hst : st.slots t with
        | none => rw [hst] at ht; cases ht
        | some s0 =>
          rw [hst] at ht; injection ht with ht; subst ht
          obtain ⟨h1, h2⟩ := refs_frz hi
          obtain ⟨o, ho'⟩ := hwf.slots t s0 hst i h1
          exact hin i o h2 ho'
      · intro j o' hj i hi
        obtain ⟨hji, o, ho', rfl⟩ := hobj j o' hj
        have : i ∈ objRefs0 o ∧ i ≠ id := by
          cases o with
          | arr _ _ => cases hi
          | box t c =>
            cases c with
            | whole d => cases hi
            | cells l =>
              obtain ⟨s, hs1, hi⟩ := mem_refsL.1 hi
              obtain ⟨n, hn⟩ := List.mem_iff_getElem?.1 hs1
              rw [frzCells_get, Option.map_eq_some_iff] at hn
              obtain ⟨s0, hs0, rfl⟩ := hn
              obtain ⟨h1, h2⟩ := refs0_frz hi
              exact ⟨mem_refsL.2 ⟨s0, List.mem_of_getElem? hs0, h1⟩, h2⟩
        obtain ⟨o2, ho2⟩ := hwf.cells j o ho' i this.1
        exact hin i o2 this.2 ho2

theorem frzAll_sound {a : Act} {w : World} : ∀ (l : List Nat) (st st' : St), SI E X w0 Mx pv st a w → frzAll l st = some st' → SI E X w0 Mx pv st' a w := by
  intro l
  induction l with
  | nil => intro st st' h hf; injection hf with hf; subst hf; exact h
  | cons id r ih =>
    intro st st' h hf
    obtain ⟨st1, h1, hf⟩ := opt_some.1 hf
    exact ih st1 st' (freeze_sound h h1) hf

end
end Go.Proofs.Ytbinmfenhbpdnaa.DS

namespace Go.Proofs.Ytbinmfenhbpdnaa.DS

section
variable {P : Program} {E : Env} {X : Nat → Prop} {w0 : World} {Mx : Mem} {pv : Nat → Option Value}

theorem renCells_get (id rid : Nat) (l : List SV) (i : Nat) : (renCells id rid l)[i]? = (l[i]?).map (renSV0 id rid) := by
  induction l generalizing i with
  | nil => simp [renCells]
  | cons s r ih => cases i <;> simp [renCells, ih]
theorem renCells_length (id rid : Nat) (l : List SV) : (renCells id rid l).length = l.length := by
  induction l with
  | nil => rfl
  | cons s r ih => simp [renCells, ih]
theorem refsOf_ren0 {id rid : Nat} {s : SV} {i : Nat} (h : i ∈ refsOf (renSV0 id rid s)) : i = rid ∧ id ∈ refsOf s ∨ i ∈ refsOf s ∧ i ≠ id := by
  unfold renSV0 at h
  split at h
  · rename_i j
    cases hb : Nat.beq j id with
    | true =>
      rw [hb] at h
      simp only [cond_true, refsOf, refs0, List.mem_singleton] at h
      exact .inl ⟨h, by simp [refsOf, refs0, beq_iff.1 hb]⟩
    | false =>
      rw [hb] at h
      simp only [cond_false, refsOf, refs0, List.mem_singleton] at h
      subst h
      exact .inr ⟨by simp [refsOf, refs0], beq_false.1 hb⟩
  · cases h
  · cases hn : s.names id with
    | true => rw [hn] at h; cases h
    | false =>
      rw [hn] at h
      refine .inr ⟨h, fun e => ?_⟩
      subst e
      exact memN_false hn h
theorem refs0_ren {id rid : Nat} {s : SV} {i : Nat} (h : i ∈ refs0 (renSV0 id rid s)) : i = rid ∧ id ∈ refs0 s ∨ i ∈ refs0 s ∧ i ≠ id := by
  have := refsOf_ren0 (refs_of_refs0 h)
  cases s with
  | tup l =>
    exfalso
    unfold renSV0 at h
    simp only at h
    cases hn : (SV.tup l).names id with
    | true => rw [hn] at h; cases h
    | false => rw [hn] at h; cases h
  | sag t ks l =>
    exfalso
    unfold renSV0 at h
    simp only at h
    cases hn : (SV.sag t ks l).names id with
    | true => rw [hn] at h; cases h
    | false => rw [hn] at h; cases h
  | _ => exact this
theorem refs_ren {id rid : Nat} {s : SV} {i : Nat} (h : i ∈ refsOf (renSV id rid s)) : i = rid ∧ id ∈ refsOf s ∨ i ∈ refsOf s ∧ i ≠ id := by
  cases s with
  | sag t ks l =>
    obtain ⟨s1, hs1, hi⟩ := mem_refsL.1 (show i ∈ refsL (renCells id rid l) from h)
    obtain ⟨n, hn⟩ := List.mem_iff_getElem?.1 hs1
    rw [renCells_get, Option.map_eq_some_iff] at hn
    obtain ⟨s0, hs0, rfl⟩ := hn
    rcases refs0_ren hi with ⟨h1, h2⟩ | ⟨h1, h2⟩
    · exact .inl ⟨h1, mem_refsL.2 ⟨s0, List.mem_of_getElem? hs0, h2⟩⟩
    · exact .inr ⟨mem_refsL.2 ⟨s0, List.mem_of_getElem? hs0, h1⟩, h2⟩
  | _ => exact refsOf_ren0 h
theorem ren_rel0 {tt : TT} {ι : Nat → Value} {M : Mem} {id rid : Nat} {s : SV} {v : Value} (h : SVRel0 tt ι M s v) (hr : rid ∉ refs0 s) : SVRel0 tt (put ι rid (ι id)) M (renSV0 id rid s) v := by
  have hgen : SVRel0 tt (put ι rid (ι id)) M (cond (s.names id) .gone s) v := by
    cases s.names id with
    | true => trivial
    | false => exact h.updι hr
  cases s with
  | own j =>
    simp only [renSV0]
    cases hb : Nat.beq j id with
    | true =>
      have := beq_iff.1 hb
      subst this
      obtain ⟨h1, a, n, c, h2⟩ : v = ι j ∧ ∃ a n c, ι j = .slice a n c := h
      exact ⟨by rw [put_same]; exact h1, a, n, c, by rw [put_same]; exact h2⟩
    | false => exact h.updι hr
  | val k d => exact h.updι hr
  | _ => exact hgen
theorem ren_rel {tt : TT} {ι : Nat → Value} {M : Mem} {id rid : Nat} {s : SV} {v : Value} (h : SVRel tt ι M s v) (hr : rid ∉ refsOf s) : SVRel tt (put ι rid (ι id)) M (renSV id rid s) v := by
  have hgen : SVRel tt (put ι rid (ι id)) M (cond (s.names id) .gone s) v := by
    cases s.names id with
    | true => trivial
    | false => exact h.updι hr
  cases s with
  | own j => exact .of0 (ren_rel0 (s := .own j) h hr)
  | val k d => exact h.updι hr
  | sag t ks l =>
    obtain ⟨ti, vs, h1, h2, h3, h4, h5, h6, h7⟩ := h
    refine ⟨ti, vs, h1, h2, h3, h4, by rw [renCells_length]; exact h5, by rw [renCells_length]; exact h6, fun i s x hs hx => ?_⟩
    rw [renCells_get, Option.map_eq_some_iff] at hs
    obtain ⟨s0, hs0, rfl⟩ := hs
    exact ren_rel0 (h7 i s0 x hs0 hx) (fun hi => hr (mem_refsL.2 ⟨s0, List.mem_of_getElem? hs0, hi⟩))
  | _ => exact hgen
theorem ren_obj {tt : TT} {ι : Nat → Value} {M : Mem} {w : World} {id rid : Nat} {i : Nat} {o : Obj} (h : ObjRel tt ι M w i o) (hi : i ≠ rid) (hr : rid ∉ objRefs0 o) : ObjRel tt (put ι rid (ι id)) M w i (renObj id rid o) := by
  have hc := h.keep (w' := w) (x := ι id) hi hr (fun _ _ => rfl)
  cases o with
  | arr e es => exact hc
  | box t c =>
    cases c with
    | whole d => exact hc
    | cells l =>
      obtain ⟨ti, b, cs, h1, h2, h3, h5, h6, h7⟩ := h
      refine ⟨ti, b, cs, h1, by rw [put_other _ _ _ hi]; exact h2, h3, h5, by rw [renCells_length]; exact h6, fun j s c hs hcj => ?_⟩
      rw [renCells_get, Option.map_eq_some_iff] at hs
      obtain ⟨s0, hs0, rfl⟩ := hs
      exact ren_rel0 (h7 j s0 c hs0 hcj) (fun hi => hr (mem_refsL.2 ⟨s0, List.mem_of_getElem? hs0, hi⟩))

/-- A row under another name. -/
theorem ren_sound {st : St} {a : Act} {w : World} (h : SI E X w0 Mx pv st a w) {id rid : Nat} {e : TypeId} {es : List D} (ho : st.objs id = some (.arr e es)) (hf : st.objs rid = none) : SI E X w0 Mx pv (st.ren id rid e es) a w := by
  obtain ⟨⟨ι, M, H, hs⟩, hwf, hsz, hdf, hpin⟩ := h
  have hne : rid ≠ id := fun e => by rw [e, ho] at hf; cases hf
  have hslot : ∀ t s, st.slots t = some s → rid ∉ refsOf s := fun t s ht hi => by
    obtain ⟨o, h1⟩ := hwf.slots t s ht rid hi
    rw [hf] at h1; cases h1
  have hcell : ∀ j o, st.objs j = some o → rid ∉ objRefs0 o := fun j o hj hi => by
    obtain ⟨o', h1⟩ := hwf.cells j o hj rid hi
    rw [hf] at h1; cases h1
  have hobj : ∀ i o', (st.ren id rid e es).objs i = some o' → (i = rid ∧ o' = .arr e es) ∨ (i ≠ rid ∧ i ≠ id ∧ ∃ o, st.objs i = some o ∧ o' = renObj id rid o) := by
    intro i o' h
    simp only [St.ren] at h
    by_cases hi : i = rid
    · subst hi; rw [put_same] at h; injection h with h; exact .inl ⟨rfl, h.symm⟩
    · rw [put_other _ _ _ hi] at h
      by_cases hj : i = id
      · subst hj; rw [put_same] at h; cases h
      · rw [put_other _ _ _ hj] at h
        cases hob : st.objs i with
        | none => rw [hob] at h; cases h
        | some o => rw [hob] at h; injection h with h; exact .inr ⟨hi, hj, o, rfl, h.symm⟩
  have hin : ∀ i, (i = rid ∨ (i ≠ id ∧ ∃ o, st.objs i = some o)) → ∃ o', (st.ren id rid e es).objs i = some o' := by
    intro i hi
    simp only [St.ren]
    by_cases he : i = rid
    · subst he; rw [put_same]; exact ⟨_, rfl⟩
    · rw [put_other _ _ _ he]
      rcases hi with hi | ⟨h1, o, h2⟩
      · exact absurd hi he
      · rw [put_other _ _ _ h1, h2]; exact ⟨_, rfl⟩
  have hb : ∀ i o' b, (st.ren id rid e es).objs i = some o' → blockOf (put ι rid (ι id) i) = some b → ∃ j o, st.objs j = some o ∧ blockOf (ι j) = some b ∧ (i = rid → j = id) ∧ (i ≠ rid → j = i ∧ i ≠ id) := by
    intro i o' b h hb
    rcases hobj i o' h with ⟨rfl, rfl⟩ | ⟨h1, h2, o, h3, _⟩
    · rw [put_same] at hb; exact ⟨id, _, ho, hb, fun _ => rfl, fun h => absurd rfl h⟩
    · rw [put_other _ _ _ h1] at hb; exact ⟨i, o, h3, hb, fun h => absurd h h1, fun _ => ⟨rfl, h2⟩⟩
  refine ⟨⟨put ι rid (ι id), M, ⟨?_, ?_, ?_, H.mem, H.memx, H.memB, H.os, H.tape, H.output, H.size, H.keep⟩, ?_⟩, ⟨?_, ?_⟩, hsz, hdf, hpin⟩
  · intro i o' h
    rcases hobj i o' h with ⟨rfl, rfl⟩ | ⟨h1, h2, o, h3, rfl⟩
    · obtain ⟨ei, g1, g2, g3⟩ := H.obj id _ ho
      exact ⟨ei, g1, g2, by rw [put_same]; exact g3⟩
    · exact ren_obj (H.obj i o h3) h1 (hcell i o h3)
  · intro i j oi oj b hi hj hij hbi hbj
    obtain ⟨i', o1, h1, h2, h3, h4⟩ := hb i oi b hi hbi
    obtain ⟨j', o2, g1, g2, g3, g4⟩ := hb j oj b hj hbj
    refine H.disj i' j' o1 o2 b h1 g1 (fun e => ?_) h2 g2
    by_cases hi' : i = rid
    · by_cases hj' : j = rid
      · exact hij (hi'.trans hj'.symm)
      · have := g4 hj'; have := h3 hi'; omega
    · by_cases hj' : j = rid
      · have := h4 hi'; have := g3 hj'; omega
      · have := h4 hi'; have := g4 hj'; omega
  · intro i o' b h hbi
    obtain ⟨j, o, h1, h2, _⟩ := hb i o' b h hbi
    exact H.own j o b h1 h2
  · intro t s ht
    simp only [St.ren] at ht
    cases hst : st.slots t with
    | none => rw [hst] at ht; cases ht
    | some s0 =>
      rw [hst] at ht; injection ht with ht; subst ht
      exact ren_rel (hs t s0 hst) (hslot t s0 hst)
  · intro t s ht i hi
    simp only [St.ren] at ht
    cases hst : st.slots t with
    | none => rw [hst] at ht; cases ht
    | some s0 =>
      rw [hst] at ht; injection ht with ht; subst ht
      rcases refs_ren hi with ⟨h1, _⟩ | ⟨h1, h2⟩
      · exact hin i (.inl h1)
      · exact hin i (.inr ⟨h2, hwf.slots t s0 hst i h1⟩)
  · intro j o' hj i hi
    rcases hobj j o' hj with ⟨rfl, rfl⟩ | ⟨h1, h2, o, h3, rfl⟩
    · cases hi
    · have : i = rid ∨ i ∈ objRefs0 o ∧ i ≠ id := by
        cases o with
        | arr _ _ => cases hi
        | box t c =>
          cases c with
          | whole d => cases hi
          | cells l =>
            obtain ⟨s, hs1, hi⟩ := mem_refsL.1 hi
            obtain ⟨n, hn⟩ := List.mem_iff_getElem?.1 hs1
            rw [renCells_get, Option.map_eq_some_iff] at hn
            obtain ⟨s0, hs0, rfl⟩ := hn
            rcases refs0_ren hi with ⟨g1, _⟩ | ⟨g1, g2⟩
            · exact .inl g1
            · exact .inr ⟨mem_refsL.2 ⟨s0, List.mem_of_getElem? hs0, g1⟩, g2⟩
      rcases this with h | ⟨g1, g2⟩
      · exact hin i (.inl h)
      · exact hin i (.inr ⟨g2, hwf.cells j o h3 i g1⟩)

/-- A cell that holds no row: it holds an empty one. -/
theorem newRow_sound {st : St} {a : Act} {w : World} (h : SI E X w0 Mx pv st a w) {id rid c : Nat} {t e : TypeId} {ei : TI} {l : List SV} (ho : st.objs id = some (.box t (.cells l))) (hc : l[c]? = some .nil) (hei : lk e E.tt = some ei) (hpos : 0 < ei.cells.length) (hf : st.objs rid = none) :
    SI E X w0 Mx pv { st with objs := put (put st.objs id (some (.box t (.cells (l.set c (.own rid)))))) rid (some (.arr e [])) } a w := by
  obtain ⟨⟨ι, M, H, hs⟩, hwf, hsz, hdf, hpin⟩ := h
  have hne : rid ≠ id := fun e => by rw [e, ho] at hf; cases hf
  have hslot : ∀ t s, st.slots t = some s → rid ∉ refsOf s := fun t s ht hi => by
    obtain ⟨o, h1⟩ := hwf.slots t s ht rid hi
    rw [hf] at h1; cases h1
  have hcell : ∀ j o, st.objs j = some o → rid ∉ objRefs0 o := fun j o hj hi => by
    obtain ⟨o', h1⟩ := hwf.cells j o hj rid hi
    rw [hf] at h1; cases h1
  have hobj : ∀ i o', put (put st.objs id (some (.box t (.cells (l.set c (.own rid)))))) rid (some (.arr e [])) i = some o' → (i = rid ∧ o' = .arr e []) ∨ (i = id ∧ o' = .box t (.cells (l.set c (.own rid)))) ∨ (i ≠ rid ∧ i ≠ id ∧ st.objs i = some o') := by
    intro i o' h
    by_cases hi : i = rid
    · subst hi; rw [put_same] at h; injection h with h; exact .inl ⟨rfl, h.symm⟩
    · rw [put_other _ _ _ hi] at h
      by_cases hj : i = id
      · subst hj; rw [put_same] at h; injection h with h; exact .inr (.inl ⟨rfl, h.symm⟩)
      · rw [put_other _ _ _ hj] at h; exact .inr (.inr ⟨hi, hj, h⟩)
  have hin : ∀ i, (∃ o, st.objs i = some o) ∨ i = rid → ∃ o', put (put st.objs id (some (.box t (.cells (l.set c (.own rid)))))) rid (some (.arr e [])) i = some o' := by
    intro i hi
    by_cases he : i = rid
    · subst he; rw [put_same]; exact ⟨_, rfl⟩
    · rw [put_other _ _ _ he]
      by_cases hj : i = id
      · subst hj; rw [put_same]; exact ⟨_, rfl⟩
      · rw [put_other _ _ _ hj]
        rcases hi with hi | hi
        · exact hi
        · exact absurd hi he
  have hb : ∀ i o' b, put (put st.objs id (some (.box t (.cells (l.set c (.own rid)))))) rid (some (.arr e [])) i = some o' → blockOf (put ι rid (.slice none 0 0) i) = some b → i ≠ rid ∧ ∃ o, st.objs i = some o ∧ blockOf (ι i) = some b := by
    intro i o' b h hb
    rcases hobj i o' h with ⟨rfl, rfl⟩ | ⟨rfl, rfl⟩ | ⟨h1, h2, h3⟩
    · rw [put_same] at hb; cases hb
    · rw [put_other _ _ _ (fun e => hne e.symm)] at hb; exact ⟨fun e => hne e.symm, _, ho, hb⟩
    · rw [put_other _ _ _ h1] at hb; exact ⟨h1, _, h3, hb⟩
  refine ⟨⟨put ι rid (.slice none 0 0), M, ⟨?_, ?_, ?_, H.mem, H.memx, H.memB, H.os, H.tape, H.output, H.size, H.keep⟩, ?_⟩, ⟨?_, ?_⟩, hsz, hdf, hpin⟩
  · intro i o' h
    rcases hobj i o' h with ⟨rfl, rfl⟩ | ⟨rfl, rfl⟩ | ⟨h1, h2, h3⟩
    · exact ⟨ei, hei, hpos, .inl ⟨put_same _ _ _, rfl⟩⟩
    · obtain ⟨ti, b, cs, h1, h2, h3, h5, h6, h7⟩ := H.obj i _ ho
      refine ⟨ti, b, cs, h1, by rw [put_other _ _ _ (fun e => hne e.symm)]; exact h2, h3, h5, by rw [List.length_set]; exact h6, fun j s u hj hu => ?_⟩
      by_cases hjc : j = c
      · subst hjc
        have hlt := (List.getElem?_eq_some_iff.1 hc).1
        rw [List.getElem?_set_self hlt] at hj
        injection hj with hj; subst hj
        have hv : u = .slice none 0 0 := h7 j .nil u hc hu
        exact ⟨by rw [put_same]; exact hv, none, 0, 0, put_same _ _ _⟩
      · rw [List.getElem?_set_ne (fun e => hjc e.symm)] at hj
        exact (h7 j s u hj hu).updι (fun hi => hcell i _ ho (mem_refsL.2 ⟨s, List.mem_of_getElem? hj, hi⟩))
    · exact (H.obj i o' h3).keep h1 (hcell i o' h3) (fun _ _ => rfl)
  · intro i j oi oj b hi hj hij hbi hbj
    obtain ⟨_, o1, h1, h2⟩ := hb i oi b hi hbi
    obtain ⟨_, o2, g1, g2⟩ := hb j oj b hj hbj
    exact H.disj i j o1 o2 b h1 g1 hij h2 g2
  · intro i o' b h hbi
    obtain ⟨_, o, h1, h2⟩ := hb i o' b h hbi
    exact H.own i o b h1 h2
  · intro t' s ht
    exact (hs t' s ht).updι (hslot t' s ht)
  · intro t' s ht i hi
    exact hin i (.inl (hwf.slots t' s ht i hi))
  · intro j o' hj i hi
    rcases hobj j o' hj with ⟨rfl, rfl⟩ | ⟨rfl, rfl⟩ | ⟨h1, h2, h3⟩
    · cases hi
    · obtain ⟨s, hs1, hi⟩ := mem_refsL.1 hi
      rcases List.mem_or_eq_of_mem_set hs1 with hs1 | rfl
      · exact hin i (.inl (hwf.cells j _ ho i (mem_refsL.2 ⟨s, hs1, hi⟩)))
      · simp only [refs0, List.mem_singleton] at hi
        exact hin i (.inr hi)
    · exact hin i (.inl (hwf.cells j o' h3 i hi))

theorem rowCell_sound {st st' : St} {a : Act} {w : World} (h : SI E X w0 Mx pv st a w) {x : Nat × Nat × TypeId} (hf : rowCell E.tt st x = some st') : SI E X w0 Mx pv st' a w := by
  obtain ⟨id, c, e⟩ := x
  replace hf : rowCell1 E.tt st id c e = some st' := hf
  unfold rowCell1 at hf
  split at hf
  · rename_i t l ho
    split at hf
    · rename_i hc
      split at hf
      · rename_i ei hei
        replace hf := cond_some.1 hf
        obtain ⟨h1, hf⟩ := hf
        simp only [Bool.and_eq_true] at h1
        injection hf with hf; subst hf
        have hfr : st.objs (cellRow id c) = none := by
          have := h1.2
          unfold fresh at this
          cases hx : st.objs (cellRow id c) with
          | none => rfl
          | some o => rw [hx] at this; cases this
        exact newRow_sound h ho hc hei (Nat.le_of_ble_eq_true h1.1) hfr
      · cases hf
    · rename_i i hc
      cases hb : Nat.beq i (cellRow id c) with
      | true => rw [hb] at hf; injection hf with hf; subst hf; exact h
      | false =>
        rw [hb] at hf
        simp only [cond_false] at hf
        split at hf
        · rename_i e' es hi
          replace hf := cond_some.1 hf
          obtain ⟨h1, hf⟩ := hf
          injection hf with hf; subst hf
          have hfr : st.objs (cellRow id c) = none := by
            unfold fresh at h1
            cases hx : st.objs (cellRow id c) with
            | none => rfl
            | some o => rw [hx] at h1; cases h1
          exact ren_sound h hi hfr
        · cases hf
    · cases hf
  · injection hf with hf; subst hf; exact h
theorem rowCells_sound {a : Act} {w : World} : ∀ (l : List (Nat × Nat × TypeId)) (st st' : St), SI E X w0 Mx pv st a w → rowCells E.tt l st = some st' → SI E X w0 Mx pv st' a w := by
  intro l
  induction l with
  | nil => intro st st' h hf; injection hf with hf; subst hf; exact h
  | cons x r ih =>
    intro st st' h hf
    obtain ⟨st1, h1, hf⟩ := opt_some.1 hf
    exact ih st1 st' (rowCell_sound h h1) hf
end
end Go.Proofs.Ytbinmfenhbpdnaa.DS

namespace Go.Proofs.Ytbinmfenhbpdnaa.DS

theorem nodupN_iff {l : List Nat} : nodupN l = true ↔ l.Nodup := by
  induction l with
  | nil => simp [nodupN]
  | cons x r ih =>
    simp only [nodupN, List.nodup_cons]
    cases h : memN x r with
    | true => simp [memN_iff.1 h]
    | false => simp [ih, memN_false h]
theorem allIn_iff {l m : List Nat} : allIn l m = true ↔ ∀ x ∈ l, x ∈ m := by
  induction l with
  | nil => simp [allIn]
  | cons x r ih =>
    simp only [allIn, List.forall_mem_cons]
    cases h : memN x m with
    | true => simp [memN_iff.1 h, ih]
    | false => simp [memN_false h]
theorem lk_keys {α : Type} {i : Nat} {l : List (Nat × α)} : (∃ o, lk i l = some o) ↔ i ∈ keysOf l := by
  induction l with
  | nil => simp [lk, keysOf]
  | cons p r ih =>
    obtain ⟨t, x⟩ := p
    simp only [lk, keysOf, List.mem_cons]
    cases h : Nat.beq i t with
    | true => simp [beq_iff.1 h]
    | false => simp [ih, beq_false.1 h]
theorem lk_append {α : Type} {i : Nat} {l m : List (Nat × α)} : lk i (l ++ m) = match lk i l with | some x => some x | none => lk i m := by
  induction l with
  | nil => rfl
  | cons p r ih =>
    obtain ⟨t, x⟩ := p
    simp only [List.cons_append, lk]
    cases h : Nat.beq i t with
    | true => rfl
    | false => simp only [cond_false]; exact ih
theorem keysOf_append {α : Type} {l m : List (Nat × α)} : keysOf (l ++ m) = keysOf l ++ keysOf m := by
  induction l with
  | nil => rfl
  | cons p r ih => simp [keysOf, ih]

theorem keepObjs_spec {st : St} : ∀ (ids : List Nat) (os : List (Nat × Obj)), keepObjs st ids = some os → keysOf os = ids ∧ ∀ i o, lk i os = some o → st.objs i = some o := by
  intro ids
  induction ids with
  | nil => intro os h; injection h with h; subst h; exact ⟨rfl, fun i o h => by cases h⟩
  | cons id r ih =>
    intro os h
    obtain ⟨o, ho, h⟩ := opt_some.1 h
    obtain ⟨x, hx, h⟩ := opt_some.1 h
    injection h with h; subst h
    obtain ⟨h1, h2⟩ := ih x hx
    refine ⟨by simp [keysOf, h1], fun i o' h => ?_⟩
    simp only [lk] at h
    cases hb : Nat.beq i id with
    | true => rw [hb] at h; injection h with h; subst h; rw [beq_iff.1 hb]; exact ho
    | false => rw [hb] at h; exact h2 i o' h

structure KeepSpec (tt : TT) (st : St) (ks : List (Nat × NA)) (sl : List (Nat × SV)) (ob : List (Nat × Obj)) : Prop where
  slot : ∀ t s, lk t sl = some s → (∃ s0, st.slots t = some s0 ∧ (∀ (ι : Nat → Value) (M : Mem) (v : Value), SVRel tt ι M s0 v → SVRel tt ι M s v) ∧ ∀ i ∈ refsOf s, i ∈ asisRefs st ks) ∨ (s = .own t ∧ ∃ o, lk t ob = some o)
  obj : ∀ i o, lk i ob = some o → objRefs0 o = [] ∧ ((st.slots i = some .nil ∧ ∃ e ei, o = .arr e [] ∧ lk e tt = some ei ∧ 1 ≤ ei.cells.length) ∨ ∃ id, st.slots i = some (.own id) ∧ st.objs id = some o ∧ id ∈ keepIds st ks)
  dis : ∀ i j id, (∃ o, lk i ob = some o) → (∃ o, lk j ob = some o) → st.slots i = some (.own id) → st.slots j = some (.own id) → i = j

theorem keepSlots_spec {tt : TT} {st : St} : ∀ (ks : List (Nat × NA)) sl ob, keepSlots tt st ks = some (sl, ob) → (keepIds st ks).Nodup → KeepSpec tt st ks sl ob := by
  intro ks
  induction ks with
  | nil =>
    intro sl ob h _
    injection h with h; injection h with h1 h2; subst h1 h2
    exact ⟨fun t s h => (by cases h), fun i o h => (by cases h), fun i j id h => (by obtain ⟨_, h⟩ := h; cases h)⟩
  | cons p r ih =>
    obtain ⟨t, na⟩ := p
    intro sl ob h hnd
    cases na with
    | asis =>
      simp only [keepSlots] at h
      obtain ⟨s, hs, h⟩ := opt_some.1 h
      obtain ⟨x, hx, h⟩ := opt_some.1 h
      injection h with h; injection h with h1 h2; subst h1 h2
      have K := ih x.1 x.2 hx hnd
      have ha : asisRefs st ((t, .asis) :: r) = refsOf s ++ asisRefs st r := by simp only [asisRefs, hs]
      refine ⟨fun u s' h => ?_, fun i o h => ?_, K.dis⟩
      · simp only [lk] at h
        cases hb : Nat.beq u t with
        | true =>
          rw [hb] at h; injection h with h; subst h
          have := beq_iff.1 hb; subst this
          exact .inl ⟨s, hs, fun _ _ _ h => h, fun i hi => by rw [ha]; exact List.mem_append_left _ hi⟩
        | false =>
          rw [hb] at h
          rcases K.slot u s' h with ⟨s0, h1, h3, h2⟩ | h1
          · exact .inl ⟨s0, h1, h3, fun i hi => by rw [ha]; exact List.mem_append_right _ (h2 i hi)⟩
          · exact .inr h1
      · exact K.obj i o h
    | dat e =>
      simp only [keepSlots] at h
      obtain ⟨s, hs, h⟩ := opt_some.1 h
      obtain ⟨x, hx, h⟩ := opt_some.1 h
      have K := ih x.1 x.2 hx hnd
      have key : ∀ k d, (some ((t, SV.val k d) :: x.1, x.2)) = some (sl, ob) → (∀ (ι : Nat → Value) (M : Mem) (v : Value), SVRel tt ι M s v → SVRel tt ι M (.val k d) v) → KeepSpec tt st ((t, .dat e) :: r) sl ob := by
        intro k d h hk
        injection h with h; injection h with h1 h2; subst h1 h2
        refine ⟨fun u s' h => ?_, fun i o h => K.obj i o h, K.dis⟩
        simp only [lk] at h
        cases hb : Nat.beq u t with
        | true =>
          rw [hb] at h; injection h with h; subst h
          have := beq_iff.1 hb; subst this
          exact .inl ⟨s, hs, hk, fun i hi => by cases hi⟩
        | false =>
          rw [hb] at h
          exact K.slot u s' h
      cases s with
      | nil =>
        refine key (.slice e) (.list []) h fun ι M v hv => ?_
        have : v = .slice none 0 0 := hv
        subst this
        exact Rep.nil e none 0 (Nat.zero_le _)
      | val k d => exact key k d h fun _ _ _ h => h
      | _ => cases h
    | own e =>
      simp only [keepSlots] at h
      obtain ⟨s, hs, h⟩ := opt_some.1 h
      obtain ⟨x, hx, h⟩ := opt_some.1 h
      cases s with
      | nil =>
        simp only at h
        have hk : keepIds st ((t, .own e) :: r) = keepIds st r := by simp only [keepIds, hs]
        rw [hk] at hnd
        have K := ih x.1 x.2 hx hnd
        cases hei : lk e tt with
        | none => rw [hei] at h; cases h
        | some ei =>
          rw [hei] at h
          obtain ⟨hle, h⟩ := cond_some.1 h
          injection h with h; injection h with h1 h2; subst h1 h2
          refine ⟨fun u s' h => ?_, fun i o h => ?_, ?_⟩
          · simp only [lk] at h ⊢
            cases hb : Nat.beq u t with
            | true =>
              rw [hb] at h; injection h with h; subst h
              have := beq_iff.1 hb; subst this
              exact .inr ⟨rfl, _, rfl⟩
            | false =>
              rw [hb] at h
              rcases K.slot u s' h with h1 | h1
              · exact .inl h1
              · exact .inr h1
          · simp only [lk] at h
            cases hb : Nat.beq i t with
            | true =>
              rw [hb] at h; injection h with h; subst h
              have := beq_iff.1 hb; subst this
              exact ⟨rfl, .inl ⟨hs, e, ei, rfl, hei, Nat.le_of_ble_eq_true hle⟩⟩
            | false => rw [hb] at h; rw [hk]; exact K.obj i o h
          · intro i j id hi hj hsi hsj
            have hit : i ≠ t := fun e => by subst e; rw [hs] at hsi; cases hsi
            have hjt : j ≠ t := fun e => by subst e; rw [hs] at hsj; cases hsj
            simp only [lk, beq_false.2 hit, beq_false.2 hjt, cond_false] at hi hj
            exact K.dis i j id hi hj hsi hsj
      | own id =>
        simp only at h
        have hk : keepIds st ((t, .own e) :: r) = id :: keepIds st r := by simp only [keepIds, hs]
        rw [hk] at hnd
        obtain ⟨hni, hnd⟩ := List.nodup_cons.1 hnd
        have K := ih x.1 x.2 hx hnd
        cases hob : st.objs id with
        | none => rw [hob] at h; cases h
        | some o =>
          rw [hob] at h
          cases o with
          | box _ _ => cases h
          | arr e' es =>
            obtain ⟨hle, h⟩ := cond_some.1 h
            injection h with h; injection h with h1 h2; subst h1 h2
            refine ⟨fun u s' h => ?_, fun i o h => ?_, ?_⟩
            · simp only [lk] at h ⊢
              cases hb : Nat.beq u t with
              | true =>
                rw [hb] at h; injection h with h; subst h
                have := beq_iff.1 hb; subst this
                exact .inr ⟨rfl, _, rfl⟩
              | false =>
                rw [hb] at h
                rcases K.slot u s' h with h1 | h1
                · exact .inl h1
                · exact .inr h1
            · simp only [lk] at h
              rw [hk]
              cases hb : Nat.beq i t with
              | true =>
                rw [hb] at h; injection h with h; subst h
                have := beq_iff.1 hb; subst this
                exact ⟨rfl, .inr ⟨id, hs, hob, List.mem_cons_self⟩⟩
              | false =>
                rw [hb] at h
                obtain ⟨h1, h2⟩ := K.obj i o h
                refine ⟨h1, ?_⟩
                rcases h2 with h2 | ⟨id', q1, q2, q3⟩
                · exact .inl h2
                · exact .inr ⟨id', q1, q2, List.mem_cons_of_mem _ q3⟩
            · have hother : ∀ j id', (∃ o, lk j x.2 = some o) → st.slots j = some (.own id') → id' ≠ id := by
                intro j id' ⟨o, ho⟩ hsj e
                subst e
                rcases (K.obj j o ho).2 with ⟨q, _⟩ | ⟨id2, q1, _, q3⟩
                · rw [hsj] at q; cases q
                · rw [hsj] at q1; injection q1 with q1; injection q1 with q1; subst q1; exact hni q3
              intro i j id' hi hj hsi hsj
              simp only [lk] at hi hj
              by_cases hit : i = t
              · by_cases hjt : j = t
                · rw [hit, hjt]
                · exfalso
                  rw [beq_false.2 hjt] at hj
                  subst hit
                  rw [hs] at hsi; injection hsi with hsi; injection hsi with hsi
                  exact hother j id' hj hsj hsi.symm
              · by_cases hjt : j = t
                · exfalso
                  rw [beq_false.2 hit] at hi
                  subst hjt
                  rw [hs] at hsj; injection hsj with hsj; injection hsj with hsj
                  exact hother i id' hi hsi hsj.symm
                · rw [beq_false.2 hit] at hi
                  rw [beq_false.2 hjt] at hj
                  exact K.dis i j id' hi hj hsi hsj
      | _ => cases h

section
variable {P : Program} {E : Env} {X : Nat → Prop} {w0 : World} {Mx : Mem} {pv : Nat → Option Value}

theorem objRefs_mem {i j : Nat} {o : Obj} {os : List (Nat × Obj)} (h : lk j os = some o) (hi : i ∈ objRefs0 o) : ∀ x ∈ refsL (match o with | .box _ (.cells l) => l | _ => []), x = x ∧ True := fun _ _ => ⟨rfl, trivial⟩

theorem cellRefs_mem {i : Nat} {l : List SV} (h : i ∈ refsL l) : i ∈ cellRefs l := by
  induction l with
  | nil => cases h
  | cons s r ih =>
    simp only [refsL, List.mem_append] at h
    simp only [cellRefs, List.mem_append]
    rcases h with h | h
    · exact .inl (refs_of_refs0 h)
    · exact .inr (ih h)
theorem objRefs_of {i j : Nat} {o : Obj} : ∀ {os : List (Nat × Obj)}, lk j os = some o → i ∈ objRefs0 o → i ∈ objRefs os := by
  intro os
  induction os with
  | nil => intro h; cases h
  | cons p r ih =>
    obtain ⟨t, x⟩ := p
    intro h hi
    simp only [lk] at h
    have hr : lk j r = some o → i ∈ objRefs ((t, x) :: r) := by
      intro h
      have := ih h hi
      cases x with
      | arr _ _ => exact this
      | box _ c =>
        cases c with
        | whole _ => exact this
        | cells l => exact List.mem_append_right _ this
    cases hb : Nat.beq j t with
    | true =>
      rw [hb] at h; injection h with h; subst h
      cases x with
      | arr _ _ => cases hi
      | box _ c =>
        cases c with
        | whole _ => cases hi
        | cells l => exact List.mem_append_left _ (cellRefs_mem hi)
    | false => rw [hb] at h; exact hr h

theorem frzSlots_sound {a : Act} {w : World} : ∀ (l : List Nat) (st st' : St), SI E X w0 Mx pv st a w → frzSlots l st = some st' → SI E X w0 Mx pv st' a w := by
  intro l
  induction l with
  | nil => intro st st' h hf; injection hf with hf; subst hf; exact h
  | cons t r ih =>
    intro st st' h hf
    unfold frzSlots at hf
    split at hf
    · obtain ⟨st1, h1, hf⟩ := opt_some.1 hf
      exact ih st1 st' (frzAll_sound _ _ _ h h1) hf
    · exact ih st st' h hf

theorem frzBoxes_sound {a : Act} {w : World} : ∀ (l : List Nat) (st st' : St), SI E X w0 Mx pv st a w → frzBoxes l st = some st' → SI E X w0 Mx pv st' a w := by
  intro l
  induction l with
  | nil => intro st st' h hf; injection hf with hf; subst hf; exact h
  | cons t r ih =>
    intro st st' h hf
    unfold frzBoxes at hf
    split at hf
    · split at hf
      · obtain ⟨st1, h1, hf⟩ := opt_some.1 hf
        exact ih st1 st' (frzAll_sound _ _ _ h h1) hf
      · exact ih st st' h hf
    · exact ih st st' h hf

theorem norm_sound {nm : Norm} {st st' : St} {a : Act} {w : World} (h : SI E X w0 Mx pv st a w) (hf : normSt E.tt nm st = some st') : SI E X w0 Mx pv st' a w := by
  unfold normSt at hf
  obtain ⟨stz, h1, hf⟩ := opt_some.1 hf
  replace h := frzAll_sound nm.freeze st stz h h1
  obtain ⟨st0, h1', hf⟩ := opt_some.1 hf
  replace h := frzSlots_sound (nm.frz ++ datsOf nm.keep) stz st0 h h1'
  obtain ⟨st00, h1c, hf⟩ := opt_some.1 hf
  replace h := frzBoxes_sound nm.frz st0 st00 h h1c
  obtain ⟨st1, h1b, hf⟩ := opt_some.1 hf
  replace h := rowCells_sound nm.rows st00 st1 h h1b
  cases hk : nm.keep with
  | none => rw [hk] at hf; injection hf with hf; subst hf; exact h
  | some ks =>
    rw [hk] at hf
    simp only at hf
    obtain ⟨x, hx, hf⟩ := opt_some.1 hf
    obtain ⟨os, hos, hf⟩ := opt_some.1 hf
    obtain ⟨hc, hf⟩ := cond_some.1 hf
    injection hf with hf; subst hf
    simp only [Bool.and_eq_true] at hc
    obtain ⟨c1, c2, c3, c4⟩ := hc
    have c1 := nodupN_iff.1 c1
    have c2 := nodupN_iff.1 c2
    have c3 := allIn_iff.1 c3
    have c4 := allIn_iff.1 c4
    rw [keysOf_append] at c1
    obtain ⟨_, _, c1⟩ := List.nodup_append.1 c1
    obtain ⟨c5, _, c6⟩ := List.nodup_append.1 c2
    have K := keepSlots_spec ks x.1 x.2 hx c5
    obtain ⟨ko, hko⟩ := keepObjs_spec (idsOf nm st1 ks) os hos
    obtain ⟨⟨ι, M, H, hs⟩, hwf, hsz, hdf, hpin⟩ := h
    have hnone : ∀ i, i ∈ (idsOf nm st1 ks) → lk i x.2 = none := by
      intro i hi
      cases hl : lk i x.2 with
      | none => rfl
      | some o => exact absurd rfl (c1 i (lk_keys.1 ⟨o, hl⟩) i (by rw [ko]; exact hi))
    have hthere : ∀ i, i ∈ (idsOf nm st1 ks) → ∃ o, lk i (x.2 ++ os) = some o := by
      intro i hi
      obtain ⟨o, ho⟩ := lk_keys.2 (show i ∈ keysOf os by rw [ko]; exact hi)
      exact ⟨o, by rw [lk_append, hnone i hi]; exact ho⟩
    let ι' : Nat → Value := fun i => match lk i x.2 with | some _ => a.eval (.tmp i) | none => ι i
    have hι1 : ∀ i, i ∈ (idsOf nm st1 ks) → ι' i = ι i := fun i hi => by simp only [ι', hnone i hi]
    have hι2 : ∀ i o, lk i x.2 = some o → ι' i = a.eval (.tmp i) := fun i o h => by simp only [ι', h]
    -- a kept object and its handle
    have hown : ∀ i o, lk i x.2 = some o → (ι' i = .slice none 0 0 ∧ ∃ e ei, o = .arr e [] ∧ lk e E.tt = some ei ∧ 1 ≤ ei.cells.length) ∨ ∃ id, st1.slots i = some (.own id) ∧ st1.objs id = some o ∧ ι' i = ι id ∧ id ∈ keepIds st1 ks ∧ ∃ a n c, ι id = .slice a n c := by
      intro i o hi
      rcases (K.obj i o hi).2 with ⟨q1, q2⟩ | ⟨id, q1, q2, q3⟩
      · exact .inl ⟨by rw [hι2 i o hi]; exact hs i _ q1, q2⟩
      · obtain ⟨r1, r2⟩ : a.eval (.tmp i) = ι id ∧ _ := hs i _ q1
        exact .inr ⟨id, q1, q2, by rw [hι2 i o hi]; exact r1, q3, r2⟩
    have hobj : ∀ i o, lk i (x.2 ++ os) = some o → lk i x.2 = some o ∨ (lk i x.2 = none ∧ i ∈ (idsOf nm st1 ks) ∧ lk i os = some o ∧ st1.objs i = some o) := by
      intro i o h
      rw [lk_append] at h
      cases hl : lk i x.2 with
      | some o' => rw [hl] at h; exact .inl h
      | none => rw [hl] at h; exact .inr ⟨rfl, by rw [← ko]; exact lk_keys.1 ⟨o, h⟩, h, hko i o h⟩
    -- the origin of a block
    have horig : ∀ i o b, lk i (x.2 ++ os) = some o → blockOf (ι' i) = some b → ∃ id, st1.objs id = some o ∧ blockOf (ι id) = some b ∧ ((lk i x.2 = some o ∧ st1.slots i = some (.own id) ∧ id ∈ keepIds st1 ks) ∨ (lk i x.2 = none ∧ id = i ∧ i ∈ (idsOf nm st1 ks))) := by
      intro i o b h hb
      rcases hobj i o h with h1 | ⟨h0, h1, h2, h3⟩
      · rcases hown i o h1 with ⟨q, _⟩ | ⟨id, q1, q2, q3, q4, _⟩
        · rw [q] at hb; cases hb
        · exact ⟨id, q2, by rw [← q3]; exact hb, .inl ⟨h1, q1, q4⟩⟩
      · exact ⟨i, h3, by rw [← hι1 i h1]; exact hb, .inr ⟨h0, rfl, h1⟩⟩
    refine ⟨⟨ι', M, ⟨?_, ?_, ?_, H.mem, H.memx, H.memB, H.os, H.tape, H.output, H.size, H.keep⟩, ?_⟩, ⟨?_, ?_⟩, hsz, hdf, hpin⟩
    · intro i o h
      rcases hobj i o h with h1 | ⟨_, h1, h2, h3⟩
      · rcases hown i o h1 with ⟨q1, e, ei, rfl, q2, q3⟩ | ⟨id, q1, q2, q3, _⟩
        · exact ⟨ei, q2, q3, .inl ⟨q1, rfl⟩⟩
        · have hr := H.obj id o q2
          have hno := (K.obj i o h1).1
          cases o with
          | arr e es =>
            obtain ⟨ei, r1, r2, r3⟩ := hr
            exact ⟨ei, r1, r2, by rw [q3]; exact r3⟩
          | box t c =>
            obtain ⟨_, _, _, _, hp, _⟩ := hr
            obtain ⟨_, _, _, hsl⟩ : ∃ a n c, ι id = .slice a n c := by
              rcases hown i _ h1 with ⟨_, e, _, h, _⟩ | ⟨id', p1, p2, p3, p4, p5⟩
              · cases h
              · rw [q1] at p1
                have : id = id' := by injection p1 with p1; injection p1
                rw [this]; exact p5
            rw [hp] at hsl; cases hsl
      · refine (H.obj i o h3).congr (hι1 i h1) (fun j hj => hι1 j (c4 j (objRefs_of h2 hj))) (fun _ _ h => h) (fun _ _ => rfl)
    · intro i j oi oj b hi hj hij hbi hbj
      obtain ⟨id1, p1, p2, p3⟩ := horig i oi b hi hbi
      obtain ⟨id2, r1, r2, r3⟩ := horig j oj b hj hbj
      have hne : id1 ≠ id2 := by
        intro e
        subst e
        rcases p3 with ⟨k1, k2, k3⟩ | ⟨k1, k2, k3⟩ <;> rcases r3 with ⟨l1, l2, l3⟩ | ⟨l1, l2, l3⟩
        · exact hij (K.dis i j id1 ⟨_, k1⟩ ⟨_, l1⟩ k2 l2)
        · exact c6 id1 k3 id1 (by rw [l2]; exact l3) rfl
        · exact c6 id1 l3 id1 (by rw [k2]; exact k3) rfl
        · exact hij (k2.symm.trans l2)
      exact H.disj id1 id2 oi oj b p1 r1 hne p2 r2
    · intro i o b hi hb
      obtain ⟨id, p1, p2, _⟩ := horig i o b hi hb
      exact H.own id o b p1 p2
    · intro t s ht
      simp only at ht
      rcases K.slot t s ht with ⟨s0, q1, q3, q2⟩ | ⟨rfl, o, ho⟩
      · exact (q3 _ _ _ (hs t s0 q1)).congr (fun i hi => hι1 i (c3 i (q2 i hi))) (fun _ _ h => h)
      · refine ⟨(hι2 t o ho).symm, ?_⟩
        rcases hown t o ho with ⟨q, _⟩ | ⟨id, _, _, q3, _, q5⟩
        · exact ⟨_, _, _, q⟩
        · rw [q3]; exact q5
    · intro t s ht i hi
      simp only at ht ⊢
      rcases K.slot t s ht with ⟨s0, q1, q3, q2⟩ | ⟨rfl, o, ho⟩
      · exact hthere i (c3 i (q2 i hi))
      · simp only [refsOf, refs0, List.mem_singleton] at hi
        subst hi
        exact ⟨o, by rw [lk_append, ho]⟩
    · intro j o hj i hi
      simp only at hj ⊢
      rcases hobj j o hj with h1 | ⟨_, h1, h2, h3⟩
      · rw [(K.obj j o h1).1] at hi; cases hi
      · exact hthere i (c4 i (objRefs_of h2 hi))

theorem normAt_sound {an : List (Nat × Norm)} {c : Code} {st st' : St} {a : Act} {w : World} (h : SI E X w0 Mx pv st a w) (hf : normAt E.tt an c st = some st') : SI E X w0 Mx pv st' a w := by
  unfold normAt at hf
  split at hf
  · split at hf
    · exact norm_sound h hf
    · injection hf with hf; subst hf; exact h
  · injection hf with hf; subst hf; exact h

end
end Go.Proofs.Ytbinmfenhbpdnaa.DS

namespace Go.Proofs.Ytbinmfenhbpdnaa.DS

section
variable {P : Program} {E : Env} {X : Nat → Prop} {w0 : World} {Mx : Mem} {pv : Nat → Option Value} {callk : Nat → List D → R}

def exitOf : Ex → Exit
  | .normal => .normal
  | .exit i => .exit i
  | .ret => .ret

def ExecOK (P : Program) (E : Env) (X : Nat → Prop) (w0 : World) (Mx : Mem) (pv : Nat → Option Value) (ex : St → (Ex → St → R) → R) (c : Code) : Prop :=
  ∀ (Q : Exit → Act → World → Prop) (K : Ex → St → R) (r : List D) st a w, SI E X w0 Mx pv st a w → ex st K = some r → (∀ e st' a' w', SI E X w0 Mx pv st' a' w' → K e st' = some r → Q (exitOf e) a' w') → c.wp P Q a w

theorem ev_si {st : St} {a : Act} {ι : Nat → Value} {M : Mem} (hs : ∀ t s, st.slots t = some s → SVRel E.tt ι M s (a.eval (.tmp t))) {x : Operand} {s : SV} (h : ev st [] [] x = some s) : SVRel E.tt ι M s (a.eval x) := by
  cases x with
  | tmp t =>
    unfold ev at h
    exact hs t s (cond_some.1 h).2
  | const v => exact .of0 (const_rel h)
  | _ => cases h

theorem iter_sound {nrm : St → Option St} {body : St → (Ex → St → R) → R} {c : Code} (hn : ∀ st st' a w, SI E X w0 Mx pv st a w → nrm st = some st' → SI E X w0 Mx pv st' a w) (hb : ExecOK P E X w0 Mx pv body c) {Q : Exit → Act → World → Prop} {K : Ex → St → R} {r : List D}
    (hQ : ∀ e st' a' w', SI E X w0 Mx pv st' a' w' → K e st' = some r → e ≠ .normal → Q (exitOf e) a' w') : ∀ n st a w, SI E X w0 Mx pv st a w → iterK nrm body n st K = some r → Code.rounds P c Q n a w := by
  intro n
  induction n with
  | zero => intro st a w _ h; cases h
  | succ n ih =>
    intro st a w h hk
    simp only [iterK] at hk
    rw [rounds_succ]
    refine hb _ _ r st a w h hk ?_
    intro e st' a' w' h' hk'
    cases e with
    | normal =>
      obtain ⟨st2, h2, hk'⟩ := opt_some.1 hk'
      exact ih st2 a' w' (hn st' st2 a' w' h' h2) hk'
    | exit i => exact hQ (.exit i) st' a' w' h' hk' (by intro e; cases e)
    | ret => exact hQ .ret st' a' w' h' hk' (by intro e; cases e)

theorem exec_sound (hm : P.follows .mixedOrders = true) (hT : TTok P E.tt) {W0 : World} (hS : Same W0 w0) (hX : ∀ b, X b → W0.heap.size ≤ b) (hcall : CallOK P E W0 callk) {an : List (Nat × Norm)} {n : Nat} {pins : List Nat} (hpv : ∀ p v, pv p = some v → p ∈ pins) : ∀ c : Code, okCode c = true → noDst pins c = true → ExecOK P E X w0 Mx pv (execK E callk an n c) c := by
  intro c
  induction c with
  | skip => intro _ _ Q K r st a w h hk hQ; exact wp_skip (hQ .normal st a w h hk)
  | region id ops draw =>
    intro hok hnd Q K r st a w h hk hQ
    refine region_sound hm hT hS hX hcall hok (fun i o hi t ht => ?_) (fun st' a' w' h' hk' => hQ .normal _ a' w' h' hk') h hk
    cases hp : pv t with
    | none => rfl
    | some v => exact absurd (hpv t v hp) (noDstL_spec hnd i o hi t ht)
  | seq x y ihx ihy =>
    intro hok hnd Q K r st a w h hk hQ
    simp only [okCode, Bool.and_eq_true] at hok
    simp only [noDst, Bool.and_eq_true] at hnd
    simp only [execK] at hk
    refine wp_seq (ihx hok.1 hnd.1 _ _ r st a w h hk ?_)
    intro e st' a' w' h' hk'
    cases e with
    | normal =>
      obtain ⟨st2, h2, hk'⟩ := opt_some.1 hk'
      exact ihy hok.2 hnd.2 Q K r st2 a' w' (normAt_sound h' h2) hk' hQ
    | exit i => exact hQ (.exit i) st' a' w' h' hk'
    | ret => exact hQ .ret st' a' w' h' hk'
  | cond x y z ihy ihz =>
    intro hok hnd Q K r st a w h hk hQ
    simp only [okCode, Bool.and_eq_true] at hok
    simp only [noDst, Bool.and_eq_true] at hnd
    simp only [execK] at hk
    split at hk
    · rename_i d hd
      have hc : a.eval x = .bool d.toBool := by
        obtain ⟨ι, M, H, hs⟩ := h.ex
        exact (Rep.inv_bool (ev_si hs hd)).1
      refine wp_cond hc ?_
      cases hb : d.toBool with
      | true =>
        rw [hb] at hk
        obtain ⟨st2, h2, hk⟩ := opt_some.1 hk
        exact ihy hok.1 hnd.1 Q K r st2 a w (normAt_sound h h2) hk hQ
      | false =>
        rw [hb] at hk
        obtain ⟨st2, h2, hk⟩ := opt_some.1 hk
        exact ihz hok.2 hnd.2 Q K r st2 a w (normAt_sound h h2) hk hQ
    · cases hk
  | block id x ih =>
    intro hok hnd Q K r st a w h hk hQ
    simp only [okCode] at hok
    simp only [noDst] at hnd
    simp only [execK] at hk
    refine wp_block (ih hok hnd _ _ r st a w h hk ?_)
    intro e st' a' w' h' hk'
    cases e with
    | normal => exact hQ .normal st' a' w' h' hk'
    | exit i =>
      simp only [exitOf, Exit.inBlock]
      simp only at hk'
      cases hb : Nat.beq i id with
      | true =>
        rw [hb] at hk'
        rw [if_pos (beq_iff.1 hb)]
        exact hQ .normal st' a' w' h' hk'
      | false =>
        rw [hb] at hk'
        rw [if_neg (beq_false.1 hb)]
        exact hQ (.exit i) st' a' w' h' hk'
    | ret => exact hQ .ret st' a' w' h' hk'
  | loop x ih =>
    intro hok hnd Q K r st a w h hk hQ
    simp only [okCode] at hok
    simp only [noDst] at hnd
    simp only [execK] at hk
    obtain ⟨st1, h1, hk⟩ := opt_some.1 hk
    replace h := normAt_sound h h1
    exact wp_loop_rounds n (iter_sound (fun st st' a w h h' => normAt_sound h h') (ih hok hnd) (fun e st' a' w' h' hk' _ => hQ e st' a' w' h' hk') n st1 a w h hk)
  | exit i => intro _ _ Q K r st a w h hk hQ; exact wp_exit (hQ (.exit i) st a w h hk)
  | ret => intro _ _ Q K r st a w h hk hQ; exact wp_ret (hQ .ret st a w h hk)
  | _ => intro _ _ Q K r st a w h hk hQ; cases hk

/-! ### Runs -/
structure FnOK (P : Program) (E : Env) (f : Nat) (fn : Func) : Prop where
  get : P.funcs[f]? = some fn
  name : (fn.name == "runtime.NumGoroutine") = false
  code : ∀ c, fn.body = some c → okCode c = true
  size : ∀ sg, lk f E.sigs = some sg → sg.params.length ≤ fn.ntmps
  pins : ∀ sg, lk f E.sigs = some sg → ∀ c, fn.body = some c → noDst (boxPs sg.params 0) c = true

/-- What is handed back: its number, what it is, its handle, where it came from. -/
structure Tr where
  id : Nat
  o : Obj
  v : Value
  src : Option Nat
def osT (T : List Tr) : List (Nat × Obj) := T.map fun x => (x.id, x.o)
def valT : List Tr → Nat → Value
  | [], _ => undef
  | x :: r, id => if x.id = id then x.v else valT r id
theorem osT_append (T U : List Tr) : osT (T ++ U) = osT T ++ osT U := by simp [osT]
theorem keysT (T : List Tr) : keysN (osT T) = T.map (·.id) := by
  induction T with
  | nil => rfl
  | cons x r ih => simp only [osT, List.map_cons, keysN] at ih ⊢; rw [ih]
theorem lk_osT {T : List Tr} {id : Nat} {o : Obj} (h : lk id (osT T) = some o) : ∃ x ∈ T, x.id = id ∧ x.o = o ∧ valT T id = x.v := by
  induction T with
  | nil => cases h
  | cons x r ih =>
    simp only [osT, List.map_cons, lk] at h
    cases hb : Nat.beq id x.id with
    | true =>
      rw [hb] at h; injection h with h
      have := beq_iff.1 hb
      exact ⟨x, List.mem_cons_self, this.symm, h, by simp [valT, this]⟩
    | false =>
      rw [hb] at h
      obtain ⟨y, h1, h2, h3, h4⟩ := ih h
      exact ⟨y, List.mem_cons_of_mem _ h1, h2, h3, by simp only [valT]; rw [if_neg (fun e => beq_false.1 hb e.symm)]; exact h4⟩
theorem valT_mem {T : List Tr} (hn : (T.map (·.id)).Nodup) {x : Tr} (hx : x ∈ T) : valT T x.id = x.v ∧ lk x.id (osT T) = some x.o := by
  induction T with
  | nil => cases hx
  | cons y r ih =>
    simp only [List.map_cons, List.nodup_cons] at hn
    simp only [valT, osT, List.map_cons, lk]
    rcases List.mem_cons.1 hx with rfl | hx
    · simp [beq_self]
    · have hne : y.id ≠ x.id := fun e => hn.1 (by rw [e]; exact List.mem_map_of_mem hx)
      obtain ⟨h1, h2⟩ := ih hn.2 hx
      rw [if_neg hne, beq_false.2 (fun e => hne e.symm)]
      exact ⟨h1, h2⟩

structure SrcOK (ι : Nat → Value) (objs objs' : Nat → Option Obj) (T : List Tr) : Prop where
  sub : ∀ id o, objs' id = some o → objs id = some o
  src : ∀ x ∈ T, (x.src = none ∧ x.v = .slice none 0 0) ∨ ∃ j o0, x.src = some j ∧ objs j = some o0 ∧ objs' j = none ∧ x.v = ι j
  dis : T.Pairwise fun x y => ∀ j, x.src = some j → y.src ≠ some j
theorem SrcOK.nil {ι : Nat → Value} {objs : Nat → Option Obj} : SrcOK ι objs objs [] := ⟨fun _ _ h => h, (fun x h => by cases h), .nil⟩
theorem SrcOK.app {ι : Nat → Value} {a b c : Nat → Option Obj} {T U : List Tr} (h : SrcOK ι a b T) (h' : SrcOK ι b c U) : SrcOK ι a c (T ++ U) := by
  refine ⟨fun id o ho => h.sub id o (h'.sub id o ho), fun x hx => ?_, ?_⟩
  · rcases List.mem_append.1 hx with hx | hx
    · rcases h.src x hx with q | ⟨j, o0, q1, q2, q3, q4⟩
      · exact .inl q
      · refine .inr ⟨j, o0, q1, q2, ?_, q4⟩
        cases hc : c j with
        | none => rfl
        | some o => have := h'.sub j o hc; rw [q3] at this; cases this
    · rcases h'.src x hx with q | ⟨j, o0, q1, q2, q3, q4⟩
      · exact .inl q
      · exact .inr ⟨j, o0, q1, h.sub j o0 q2, q3, q4⟩
  · refine List.pairwise_append.2 ⟨h.dis, h'.dis, fun x hx y hy j hj e => ?_⟩
    rcases h.src x hx with ⟨q, _⟩ | ⟨j1, o1, q1, q2, q3, q4⟩
    · rw [q] at hj; cases hj
    · rw [q1] at hj; injection hj with hj; subst hj
      rcases h'.src y hy with ⟨r, _⟩ | ⟨j2, o2, r1, r2, r3, r4⟩
      · rw [r] at e; cases e
      · rw [r1] at e; injection e with e; subst e
        rw [q3] at r2; cases r2
/-- One row. -/
theorem SrcOK.row {ι : Nat → Value} {objs : Nat → Option Obj} {i : Nat} {o0 : Obj} (h : objs i = some o0) (id : Nat) (o : Obj) : SrcOK ι objs (put objs i none) [⟨id, o, ι i, some i⟩] := by
  refine ⟨fun j o hj => ?_, fun x hx => ?_, List.pairwise_singleton _ _⟩
  · by_cases e : j = i
    · subst e; rw [put_same] at hj; cases hj
    · rw [put_other _ _ _ e] at hj; exact hj
  · simp at hx; subst hx
    exact .inr ⟨i, o0, rfl, h, put_same _ _ _, rfl⟩
theorem SrcOK.none {ι : Nat → Value} {objs : Nat → Option Obj} (id : Nat) (o : Obj) : SrcOK ι objs objs [⟨id, o, .slice none 0 0, none⟩] := by
  refine ⟨fun _ _ h => h, fun x hx => ?_, List.pairwise_singleton _ _⟩
  simp at hx; subst hx; exact .inl ⟨rfl, rfl⟩

def resVal (P : Program) (w : World) (tmps : Array Value) : ResultVar → Value
  | .tmp t => tmps.getD t undef
  | .cell t ty => match (do loadVar ty (← asAddr (tmps.getD t undef)) : Sem Value).run P w with
    | .ok u _ => u
    | _ => undef
def GoodRV (P : Program) (w : World) (tmps : Array Value) : ResultVar → Prop
  | .tmp _ => True
  | .cell t ty => ∃ u, (do loadVar ty (← asAddr (tmps.getD t undef)) : Sem Value).run P w = .ok u w
/-- A result that lies in a cell. -/
theorem cell_res (hT : TTok P E.tt) {ι : Nat → Value} {M : Mem} {a : Act} {w : World} {st : St} (hs : ∀ t s, st.slots t = some s → SVRel E.tt ι M s (a.eval (.tmp t))) (hobj : ∀ id o, st.objs id = some o → ObjRel E.tt ι M w id o)
    (hmem : ∀ ad v, M ad = some v → w.cell? ad = some v) {t : Nat} {ty : TypeId} {v : SV} (h : cellVal E st t ty = some v) :
    GoodRV P w a.tmps (.cell t ty) ∧ SVRel E.tt ι M v (resVal P w a.tmps (.cell t ty)) := by
  unfold cellVal at h
  split at h
  · rename_i c v' hl
    injection h with h; subst h
    have hev : ∀ x s, ev st [] [] x = some s → SVRel E.tt ι M s (a.eval x) := fun x s h => ev_si hs h
    obtain ⟨⟨u, h1, h2⟩, _⟩ := load_sound hT hev hobj hmem (o := ⟨none, .load ty (.tmp t), ty, "", #[], none⟩) rfl hl
    have hp : ∃ ad, a.eval (.tmp t) = .pointer (some ad) := by
      unfold loadO at hl
      obtain ⟨ti, _, hl⟩ := opt_some.1 hl
      obtain ⟨s, hs1, hl⟩ := opt_some.1 hl
      have hrel := hev _ _ hs1
      cases s with
      | eptr k d => obtain ⟨ad, _, _, _, e, _⟩ := hrel; exact ⟨ad, e⟩
      | bptr id u off k => obtain ⟨_, b, _, e⟩ := hrel; exact ⟨_, e⟩
      | optr id e i off k => obtain ⟨_, _, _, _, _, _, _, _, _, e⟩ := hrel; exact ⟨_, e⟩
      | _ => cases hl
    obtain ⟨ad, hp⟩ := hp
    have hrun : (loadVar ty ad).run P w = .ok u w := by
      have : (execOp a.eval ⟨none, .load ty (.tmp t), ty, "", #[], none⟩).run P w = ((do pure (Next.value (← loadVar ty ad))) : Sem Next).run P w := by
        simp [execOp, hp, Instr.loadAt, Instr.sureAddr]
      rw [this] at h1
      simp only [Sem.run_bind, Sem.run_pure] at h1
      cases hr : (loadVar ty ad).run P w with
      | ok u' w' =>
        rw [hr] at h1
        simp only [Result.andThen_ok] at h1
        injection h1 with e1 e2
        injection e1 with e1
        subst e1 e2; rfl
      | halt _ _ => rw [hr] at h1; cases h1
    have hp2 : a.tmps.getD t undef = .pointer (some ad) := hp
    have hrun2 : (do loadVar ty (← asAddr (a.tmps.getD t undef)) : Sem Value).run P w = .ok u w := by
      rw [hp2]
      simp only [asAddr, pure_bind]
      exact hrun
    refine ⟨⟨u, hrun2⟩, ?_⟩
    simp only [resVal, hrun2]
    exact h2
  · cases h
def ArrT (E : Env) (M : Mem) (w : World) (x : Tr) : Prop := ∃ e es ei, x.o = .arr e es ∧ lk e E.tt = some ei ∧ 0 < ei.cells.length ∧ ArrRel E.tt M w e ei x.v es
theorem finRes_spec (hT : TTok P E.tt) {ι : Nat → Value} {M : Mem} {a : Act} {w : World} (hmem : ∀ ad v, M ad = some v → w.cell? ad = some v) (n : Nat) (slots : Nat → Option SV) (hs : ∀ t s, slots t = some s → SVRel E.tt ι M s (a.eval (.tmp t))) (base : Nat) (r : List D) :
    ∀ (vs : List ResultVar) (rs : List RM) (j : Nat) (q : List D) (objs objs' : Nat → Option Obj), (∀ id o, objs id = some o → ObjRel E.tt ι M w id o) → (∀ i, i < q.length → r.getD (j + i) .no = q.getD i .no) →
      finRes E ⟨n, slots, objs⟩ vs rs = some (q, objs') → (∀ rv ∈ vs, GoodRV P w a.tmps rv) ∧ q.length = rs.length ∧ ∀ svs os, resSV rs base j r = some (svs, os) → ∃ T, os = osT T ∧ (∀ x ∈ T, ArrT E M w x) ∧ SrcOK ι objs objs' T ∧ svs.length = vs.length ∧
        ∀ (i : Nat) (s : SV) (u : Value), svs[i]? = some s → (vs.map (resVal P w a.tmps))[i]? = some u → (∃ k d, s = .val k d ∧ Rep E.tt M k u d) ∨ (∃ x ∈ T, s = .own x.id ∧ u = x.v ∧ ∃ y n c, u = .slice y n c) ∨ s = .gone := by
  intro vs
  induction vs with
  | nil =>
    intro rs j q objs objs' hobj hq h
    cases rs with
    | nil =>
      injection h with h; injection h with h1 h2; subst h1 h2
      refine ⟨fun rv h => (by cases h), rfl, fun svs os h => ?_⟩
      injection h with h; injection h with h1 h2; subst h1 h2
      exact ⟨[], rfl, (fun x h => by cases h), .nil, rfl, fun i s u h => by simp at h⟩
    | cons _ _ => cases h
  | cons v vs ih =>
    intro rs j q objs objs' hobj hq h
    cases rs with
    | nil => cases v <;> cases h
    | cons rm rs =>
      cases v with
      | cell t ty =>
        cases rm with
        | own e => cases h
        | any => cases h
        | val k =>
          simp only [finRes] at h
          replace h := opt_some.1 h
          obtain ⟨s, hs1, h⟩ := h
          replace h := opt_some.1 h
          obtain ⟨d, hd, h⟩ := h
          replace h := opt_some.1 h
          obtain ⟨x, hx, h⟩ := h
          injection h with h; injection h with h1 h2; subst h1 h2
          have e0 : r.getD j .no = d := by have := hq 0 (by simp); simpa using this
          obtain ⟨i1, i3, i2⟩ := ih rs (j + 1) x.1 objs x.2 hobj (fun i hi => by have := hq (i + 1) (by simp; omega); rw [show j + 1 + i = j + (i + 1) by omega, this]; rfl) hx
          obtain ⟨c1, c2⟩ := cell_res (P := P) hT (st := ⟨n, slots, objs⟩) hs hobj hmem hs1
          refine ⟨fun rv hrv => ?_, by simp [i3], fun svs os hr => ?_⟩
          · rcases List.mem_cons.1 hrv with rfl | hrv
            · exact c1
            · exact i1 rv hrv
          · simp only [resSV] at hr
            obtain ⟨y, hy, hr⟩ := opt_some.1 hr
            injection hr with hr; injection hr with h1 h2; subst h1 h2
            obtain ⟨T, k1, k2, k3, k4, k5⟩ := i2 y.1 y.2 hy
            have hrep : Rep E.tt M k (resVal P w a.tmps (.cell t ty)) d := svD_rel hd c2
            refine ⟨T, k1, k2, k3, by simp [k4], fun i s' u h1 h2 => ?_⟩
            cases i with
            | zero =>
              simp only [List.getElem?_cons_zero, Option.some.injEq] at h1
              simp only [List.map_cons, List.getElem?_cons_zero, Option.some.injEq] at h2
              subst h1 h2
              exact .inl ⟨k, _, rfl, by rw [e0, hrep.canon]; exact hrep⟩
            | succ i =>
              simp only [List.getElem?_cons_succ] at h1
              simp only [List.map_cons, List.getElem?_cons_succ] at h2
              exact k5 i s' u h1 h2
      | tmp t =>
        have htmp : resVal P w a.tmps (.tmp t) = a.eval (.tmp t) := rfl
        cases rm with
        | any =>
          simp only [finRes] at h
          replace h := opt_some.1 h
          obtain ⟨x, hx, h⟩ := h
          injection h with h; injection h with h1 h2; subst h1 h2
          obtain ⟨i1, i3, i2⟩ := ih rs (j + 1) x.1 objs x.2 hobj (fun i hi => by have := hq (i + 1) (by simp; omega); rw [show j + 1 + i = j + (i + 1) by omega, this]; rfl) hx
          refine ⟨fun rv hrv => ?_, by simp [i3], fun svs os hr => ?_⟩
          · rcases List.mem_cons.1 hrv with rfl | hrv
            · exact trivial
            · exact i1 rv hrv
          · simp only [resSV] at hr
            obtain ⟨y, hy, hr⟩ := opt_some.1 hr
            injection hr with hr; injection hr with h1 h2; subst h1 h2
            obtain ⟨T, k1, k2, k3, k4, k5⟩ := i2 y.1 y.2 hy
            refine ⟨T, k1, k2, k3, by simp [k4], fun i s' u h1 h2 => ?_⟩
            cases i with
            | zero =>
              simp only [List.getElem?_cons_zero, Option.some.injEq] at h1
              exact .inr (.inr h1.symm)
            | succ i =>
              simp only [List.getElem?_cons_succ] at h1
              simp only [List.map_cons, List.getElem?_cons_succ] at h2
              exact k5 i s' u h1 h2
        | val k =>
          simp only [finRes] at h
          replace h := opt_some.1 h
          obtain ⟨s, hs1, h⟩ := h
          replace h := opt_some.1 h
          obtain ⟨d, hd, h⟩ := h
          replace h := opt_some.1 h
          obtain ⟨x, hx, h⟩ := h
          injection h with h; injection h with h1 h2; subst h1 h2
          have e0 : r.getD j .no = d := by have := hq 0 (by simp); simpa using this
          obtain ⟨i1, i3, i2⟩ := ih rs (j + 1) x.1 objs x.2 hobj (fun i hi => by have := hq (i + 1) (by simp; omega); rw [show j + 1 + i = j + (i + 1) by omega, this]; rfl) hx
          refine ⟨fun rv hrv => ?_, by simp [i3], fun svs os hr => ?_⟩
          · rcases List.mem_cons.1 hrv with rfl | hrv
            · exact trivial
            · exact i1 rv hrv
          · simp only [resSV] at hr
            obtain ⟨y, hy, hr⟩ := opt_some.1 hr
            injection hr with hr; injection hr with h1 h2; subst h1 h2
            obtain ⟨T, k1, k2, k3, k4, k5⟩ := i2 y.1 y.2 hy
            have hrep : Rep E.tt M k (a.eval (.tmp t)) d := svD_rel hd (ev_si (st := ⟨n, slots, objs⟩) hs hs1)
            refine ⟨T, k1, k2, k3, by simp [k4], fun i s' u h1 h2 => ?_⟩
            cases i with
            | zero =>
              simp only [List.getElem?_cons_zero, Option.some.injEq] at h1
              simp only [List.map_cons, List.getElem?_cons_zero, Option.some.injEq] at h2
              subst h1 h2
              exact .inl ⟨k, _, rfl, by rw [e0, hrep.canon]; exact hrep⟩
            | succ i =>
              simp only [List.getElem?_cons_succ] at h1
              simp only [List.map_cons, List.getElem?_cons_succ] at h2
              exact k5 i s' u h1 h2
        | own e =>
          simp only [finRes] at h
          replace h := opt_some.1 h
          obtain ⟨s, hs1, h⟩ := h
          have hrel := ev_si (st := ⟨n, slots, objs⟩) hs hs1
          have fin : ∀ es x objs1 src, finRes E ⟨n, slots, objs1⟩ vs rs = some x → q = .list es :: x.1 → objs' = x.2 → SrcOK ι objs objs1 [⟨base + j, .arr e es, a.eval (.tmp t), src⟩] → (∃ ei, lk e E.tt = some ei ∧ 0 < ei.cells.length ∧ ArrRel E.tt M w e ei (a.eval (.tmp t)) es) → (∃ y n c, a.eval (.tmp t) = .slice y n c) →
              (∀ rv ∈ ResultVar.tmp t :: vs, GoodRV P w a.tmps rv) ∧ q.length = (RM.own e :: rs).length ∧ ∀ svs os, resSV (.own e :: rs) base j r = some (svs, os) → ∃ T, os = osT T ∧ (∀ x ∈ T, ArrT E M w x) ∧ SrcOK ι objs objs' T ∧ svs.length = (ResultVar.tmp t :: vs).length ∧
                ∀ (i : Nat) (s : SV) (u : Value), svs[i]? = some s → ((ResultVar.tmp t :: vs).map (resVal P w a.tmps))[i]? = some u → (∃ k d, s = .val k d ∧ Rep E.tt M k u d) ∨ (∃ x ∈ T, s = .own x.id ∧ u = x.v ∧ ∃ y n c, u = .slice y n c) ∨ s = .gone := by
            intro es x objs1 src hx hq0 ho hsrc harr hsl
            subst hq0 ho
            have e0 : r.getD j .no = .list es := by have := hq 0 (by simp); simpa using this
            obtain ⟨i1, i3, i2⟩ := ih rs (j + 1) x.1 objs1 x.2 (fun id o h => hobj id o (hsrc.sub id o h)) (fun i hi => by have := hq (i + 1) (by simp; omega); rw [show j + 1 + i = j + (i + 1) by omega, this]; rfl) hx
            refine ⟨fun rv hrv => ?_, by simp [i3], fun svs os hr => ?_⟩
            · rcases List.mem_cons.1 hrv with rfl | hrv
              · exact trivial
              · exact i1 rv hrv
            · simp only [resSV] at hr
              obtain ⟨y, hy, hr⟩ := opt_some.1 hr
              injection hr with hr; injection hr with h1 h2; subst h1 h2
              obtain ⟨T, k1, k2, k3, k4, k5⟩ := i2 y.1 y.2 hy
              refine ⟨⟨base + j, .arr e es, a.eval (.tmp t), src⟩ :: T, ?_, fun z hz => ?_, hsrc.app k3, by simp [k4], fun i s' u h1 h2 => ?_⟩
              · rw [e0, k1]; rfl
              · rcases List.mem_cons.1 hz with rfl | hz
                · obtain ⟨ei, g1, g2, g3⟩ := harr
                  exact ⟨e, es, ei, rfl, g1, g2, g3⟩
                · exact k2 z hz
              · cases i with
                | zero =>
                  simp only [List.getElem?_cons_zero, Option.some.injEq] at h1
                  simp only [List.map_cons, List.getElem?_cons_zero, Option.some.injEq] at h2
                  subst h1 h2
                  exact .inr (.inl ⟨_, List.mem_cons_self, rfl, htmp, hsl⟩)
                | succ i =>
                  simp only [List.getElem?_cons_succ] at h1
                  simp only [List.map_cons, List.getElem?_cons_succ] at h2
                  rcases k5 i s' u h1 h2 with g | ⟨z, g1, g2⟩ | g
                  · exact .inl g
                  · exact .inr (.inl ⟨z, List.mem_cons_of_mem _ g1, g2⟩)
                  · exact .inr (.inr g)
          cases s with
          | nil =>
            simp only at h
            cases hei : lk e E.tt with
            | none => rw [hei] at h; cases h
            | some ei =>
              rw [hei] at h
              replace h := cond_some.1 h
              obtain ⟨hle, h⟩ := h
              replace h := opt_some.1 h
              obtain ⟨x, hx, h⟩ := h
              injection h with h; injection h with h1 h2
              have hv : a.eval (.tmp t) = .slice none 0 0 := hrel
              exact fin [] x objs none hx h1.symm h2.symm (by rw [hv]; exact .none _ _) ⟨ei, hei, Nat.le_of_ble_eq_true hle, .inl ⟨hv, rfl⟩⟩ ⟨_, _, _, hv⟩
          | own i =>
            simp only at h
            cases hob : objs i with
            | none => rw [hob] at h; cases h
            | some o =>
              rw [hob] at h
              cases o with
              | box _ _ => cases h
              | arr e' es =>
                replace h := cond_some.1 h
                obtain ⟨he, h⟩ := h
                have he := beq_iff.1 he
                subst he
                replace h := opt_some.1 h
                obtain ⟨x, hx, h⟩ := h
                injection h with h; injection h with h1 h2
                obtain ⟨hv, y1, y2, y3, hy⟩ : a.eval (.tmp t) = ι i ∧ ∃ a n c, ι i = .slice a n c := hrel
                obtain ⟨ei, g1, g2, g3⟩ := hobj i _ hob
                exact fin es x _ (some i) hx h1.symm h2.symm (by rw [hv]; exact .row hob _ _) ⟨ei, g1, g2, by rw [hv]; exact g3⟩ ⟨_, _, _, hv.trans hy⟩
          | _ => cases h

/-- What a box's cells hand back. -/
def CellT (E : Env) (ι : Nat → Value) (M : Mem) (T : List Tr) (i B c : Nat) (u : Value) (d0 : D) : CK → Prop
  | .val q => Rep E.tt M q u d0
  | .row _ => ∃ x ∈ T, x.id = rowId B c ∧ x.v = u ∧ ∃ y n z, u = .slice y n z
  | .self => u = .pointer none ∨ ∃ b, ι i = .pointer (some ⟨b, 0, none⟩) ∧ u = .pointer (some ⟨b, 0, none⟩)
theorem CellT.mono {ι : Nat → Value} {M : Mem} {T U : List Tr} {i B c : Nat} {u : Value} {d0 : D} {k : CK} (h : CellT E ι M T i B c u d0 k) (hs : ∀ x ∈ T, x ∈ U) : CellT E ι M U i B c u d0 k := by
  cases k with
  | row e => obtain ⟨x, h1, h2⟩ := h; exact ⟨x, hs x h1, h2⟩
  | _ => exact h
theorem finCells_spec {ι : Nat → Value} {M : Mem} {w : World} {i B : Nat} {d : D} : ∀ (cs : List CK) (c : Nat) (ss : List SV) (objs : Nat → Option Obj) (cds : List D) (objs' : Nat → Option Obj) (cc : List Value), finCells E i cs ss objs = some (cds, objs') → cc.length = ss.length →
    (∀ id o, objs id = some o → ObjRel E.tt ι M w id o) → (∀ (j : Nat) s u, ss[j]? = some s → cc[j]? = some u → SVRel0 E.tt ι M s u) → (∀ (j : Nat) d0, cds[j]? = some d0 → d.cell (c + j) = d0) →
    cs.length = ss.length ∧ cds.length = cs.length ∧ ∃ T, osT T = rowObjs B cs c d ∧ (∀ x ∈ T, ArrT E M w x) ∧ SrcOK ι objs objs' T ∧ ∀ (j : Nat) k u d0, cs[j]? = some k → cc[j]? = some u → cds[j]? = some d0 → CellT E ι M T i B (c + j) u d0 k := by
  intro cs
  induction cs with
  | nil =>
    intro c ss objs cds objs' cc h hl hobj hr hd
    cases ss with
    | nil =>
      injection h with h; injection h with h1 h2; subst h1 h2
      exact ⟨rfl, rfl, [], rfl, (fun x h => by cases h), .nil, fun j k u d0 hk => by simp at hk⟩
    | cons _ _ => cases h
  | cons k cs ih =>
    intro c ss objs cds objs' cc h hl hobj hr hd
    cases ss with
    | nil => cases k <;> cases h
    | cons s ss =>
      cases cc with
      | nil => simp at hl
      | cons u cc =>
        have h0 := hr 0 s u rfl rfl
        have step : ∀ d0 x objs1 T0, finCells E i cs ss objs1 = some x → cds = d0 :: x.1 → objs' = x.2 → SrcOK ι objs objs1 T0 → (∀ y ∈ T0, ArrT E M w y) → osT T0 ++ rowObjs B cs (c + 1) d = rowObjs B (k :: cs) c d → CellT E ι M T0 i B c u d0 k →
            (k :: cs).length = (s :: ss).length ∧ cds.length = (k :: cs).length ∧ ∃ T, osT T = rowObjs B (k :: cs) c d ∧ (∀ x ∈ T, ArrT E M w x) ∧ SrcOK ι objs objs' T ∧ ∀ (j : Nat) k' u' d', (k :: cs)[j]? = some k' → (u :: cc)[j]? = some u' → cds[j]? = some d' → CellT E ι M T i B (c + j) u' d' k' := by
          intro d0 x objs1 T0 hx hc ho hsrc harr hos hhead
          subst hc ho
          obtain ⟨q1, q2, T, q3, q4, q5, q6⟩ := ih (c + 1) ss objs1 x.1 x.2 cc hx (by simpa using hl) (fun id o h => hobj id o (hsrc.sub id o h)) (fun j s u hs hu => hr (j + 1) s u (by simpa using hs) (by simpa using hu)) (fun j d1 hj => by rw [show c + 1 + j = c + (j + 1) by omega]; exact hd (j + 1) d1 (by simpa using hj))
          refine ⟨by simp [q1], by simp [q2], T0 ++ T, by rw [osT_append, q3, hos], fun y hy => ?_, hsrc.app q5, fun j k' u' d' h1 h2 h3 => ?_⟩
          · rcases List.mem_append.1 hy with hy | hy
            · exact harr y hy
            · exact q4 y hy
          · cases j with
            | zero =>
              simp at h1 h2 h3
              subst h1 h2 h3
              exact hhead.mono (fun x hx => List.mem_append_left _ hx)
            | succ j =>
              have := q6 j k' u' d' (by simpa using h1) (by simpa using h2) (by simpa using h3)
              rw [show c + 1 + j = c + (j + 1) by omega] at this
              exact this.mono (fun x hx => List.mem_append_right _ hx)
        cases k with
        | val q =>
          simp only [finCells] at h
          replace h := opt_some.1 h
          obtain ⟨d0, hd0, h⟩ := h
          replace h := opt_some.1 h
          obtain ⟨x, hx, h⟩ := h
          injection h with h; injection h with h1 h2
          exact step d0 x objs [] hx h1.symm h2.symm .nil (fun y h => by cases h) rfl (svD1_rel hd0 h0)
        | row e =>
          simp only [finCells] at h
          cases s with
          | nil =>
            simp only at h
            cases hei : lk e E.tt with
            | none => rw [hei] at h; cases h
            | some ei =>
              rw [hei] at h
              replace h := cond_some.1 h
              obtain ⟨hle, h⟩ := h
              replace h := opt_some.1 h
              obtain ⟨x, hx, h⟩ := h
              injection h with h; injection h with h1 h2
              have hv : u = .slice none 0 0 := h0
              have e0 : d.cell c = .list [] := by have := hd 0 (.list []) (by rw [← h1]; rfl); simpa using this
              exact step (.list []) x objs [⟨rowId B c, .arr e [], .slice none 0 0, none⟩] hx h1.symm h2.symm (.none _ _) (fun y hy => by simp at hy; subst hy; exact ⟨e, [], ei, rfl, hei, Nat.le_of_ble_eq_true hle, .inl ⟨rfl, rfl⟩⟩) (by simp only [rowObjs, osT, List.map_cons, List.map_nil, e0]; rfl) ⟨⟨rowId B c, .arr e [], .slice none 0 0, none⟩, List.mem_singleton.2 rfl, rfl, hv.symm, ⟨_, _, _, hv⟩⟩
          | own i0 =>
            simp only at h
            cases hob : objs i0 with
            | none => rw [hob] at h; cases h
            | some o =>
              rw [hob] at h
              cases o with
              | box _ _ => cases h
              | arr e' es =>
                replace h := cond_some.1 h
                obtain ⟨he, h⟩ := h
                have he := beq_iff.1 he
                subst he
                replace h := opt_some.1 h
                obtain ⟨x, hx, h⟩ := h
                injection h with h; injection h with h1 h2
                obtain ⟨hv, y1, y2, y3, hy⟩ := h0
                obtain ⟨ei, g1, g2, g3⟩ := hobj i0 _ hob
                have e0 : d.cell c = .list es := by have := hd 0 (.list es) (by rw [← h1]; rfl); simpa using this
                exact step (.list es) x _ [⟨rowId B c, .arr e es, ι i0, some i0⟩] hx h1.symm h2.symm (.row hob _ _) (fun y hy => by simp at hy; subst hy; exact ⟨e, es, ei, rfl, g1, g2, g3⟩) (by simp only [rowObjs, osT, List.map_cons, List.map_nil, e0]; rfl) ⟨⟨rowId B c, .arr e es, ι i0, some i0⟩, List.mem_singleton.2 rfl, rfl, hv.symm, ⟨_, _, _, hv.trans hy⟩⟩
          | _ => cases h
        | self =>
          simp only [finCells] at h
          cases s with
          | selfn i0 =>
            simp only at h
            replace h := cond_some.1 h
            obtain ⟨he, h⟩ := h
            have he := beq_iff.1 he
            subst he
            replace h := opt_some.1 h
            obtain ⟨x, hx, h⟩ := h
            injection h with h; injection h with h1 h2
            exact step .no x objs [] hx h1.symm h2.symm .nil (fun y h => by cases h) rfl h0
          | _ => cases h

/-- A thing that is handed back, in memory. -/
def TrOK (E : Env) (ι : Nat → Value) (M : Mem) (w : World) (T : List Tr) (x : Tr) : Prop :=
  ArrT E M w x ∨ ∃ t cs d ti b cc i, x.o = .box t (.cells (mkCells x.id cs 0 d)) ∧ lk t E.tt = some ti ∧ x.v = .pointer (some ⟨b, 0, none⟩) ∧ x.v = ι i ∧ w.heap[b]? = some (.cells cc t (0, 0)) ∧ cc.size = ti.cells.length ∧ cs.length = ti.cells.length ∧
    ∀ (j : Nat) k u, cs[j]? = some k → cc.toList[j]? = some u → CellT E ι M T i x.id (0 + j) u (d.cell (0 + j)) k
theorem TrOK.mono {ι : Nat → Value} {M : Mem} {w : World} {T U : List Tr} {x : Tr} (h : TrOK E ι M w T x) (hs : ∀ x ∈ T, x ∈ U) : TrOK E ι M w U x := by
  rcases h with h | ⟨t, cs, d, ti, b, cc, i, h1, h2, h3, h4, h5, h6, h7, h8⟩
  · exact .inl h
  · exact .inr ⟨t, cs, d, ti, b, cc, i, h1, h2, h3, h4, h5, h6, h7, fun j k u hk hu => (h8 j k u hk hu).mono hs⟩
theorem finBoxes_spec (hT : TTok P E.tt) {ι : Nat → Value} {M : Mem} {w : World} {slots : Nat → Option SV} (bid : Nat → Nat) (ds : List D) : ∀ (ps : List PM) (i n : Nat) (objs : Nat → Option Obj) (r : List D), finBoxes E slots ps i objs = some r →
    (∀ id o, objs id = some o → ObjRel E.tt ι M w id o) → (∀ j, j < r.length → ds.getD (n + j) .no = r.getD j .no) →
    ∃ T objs', boxObjs (boxesP bid i ps) n ds = osT T ∧ SrcOK ι objs objs' T ∧ (∀ x ∈ T, TrOK E ι M w T x) ∧ ∀ (q : Nat) t cs, ps[q]? = some (.box t cs) → (∃ x ∈ T, x.id = bid (i + q) ∧ x.v = ι (i + q)) ∧ isPar (i + q) (slots (i + q)) = true ∧ ∃ b, ι (i + q) = .pointer (some ⟨b, 0, none⟩) := by
  intro ps
  induction ps with
  | nil =>
    intro i n objs r h _ _
    exact ⟨[], objs, rfl, .nil, (fun x h => by cases h), fun q t cs h => by simp at h⟩
  | cons p ps ih =>
    intro i n objs r h hobj hd
    have skip : finBoxes E slots ps (i + 1) objs = some r → boxesP bid i (p :: ps) = boxesP bid (i + 1) ps → (∀ t cs, p ≠ .box t cs) →
        ∃ T objs', boxObjs (boxesP bid i (p :: ps)) n ds = osT T ∧ SrcOK ι objs objs' T ∧ (∀ x ∈ T, TrOK E ι M w T x) ∧ ∀ (q : Nat) t cs, (p :: ps)[q]? = some (.box t cs) → (∃ x ∈ T, x.id = bid (i + q) ∧ x.v = ι (i + q)) ∧ isPar (i + q) (slots (i + q)) = true ∧ ∃ b, ι (i + q) = .pointer (some ⟨b, 0, none⟩) := by
      intro h he hp
      obtain ⟨T, objs', h1, h2, h3, h4⟩ := ih (i + 1) n objs r h hobj hd
      refine ⟨T, objs', by rw [he]; exact h1, h2, h3, fun q t cs hq => ?_⟩
      cases q with
      | zero => simp at hq; exact absurd hq (hp t cs)
      | succ q =>
        have := h4 q t cs (by simpa using hq)
        rw [show i + 1 + q = i + (q + 1) by omega] at this
        exact this
    cases p with
    | box t cs =>
      simp only [finBoxes] at h
      cases hob : objs i with
      | none => rw [hob] at h; cases h
      | some o =>
        rw [hob] at h
        cases o with
        | arr _ _ => cases h
        | box u c =>
          replace h := cond_some.1 h
          obtain ⟨hc, h⟩ := h
          simp only [Bool.and_eq_true] at hc
          obtain ⟨hu, hpar⟩ := hc
          have hu := beq_iff.1 hu
          subst hu
          replace h := opt_some.1 h
          obtain ⟨ti, hti, h⟩ := h
          replace h := opt_some.1 h
          obtain ⟨x, hx, h⟩ := h
          replace h := opt_some.1 h
          obtain ⟨r', hr', h⟩ := h
          injection h with h
          subst h
          have e0 : ds.getD n .no = .agg x.1 := by have := hd 0 (by simp); simpa using this
          obtain ⟨ti', b, cc, g1, g2, g3, g4⟩ := hobj i _ hob
          rw [hti] at g1; injection g1 with g1; subst g1
          obtain ⟨k1, k2, k3⟩ := toCells_rel hT hti g4
          have hsub : ∀ id o, put objs i none id = some o → objs id = some o := fun id o ho => by
            by_cases e : id = i
            · subst e; rw [put_same] at ho; cases ho
            · rw [put_other _ _ _ e] at ho; exact ho
          obtain ⟨f1, f2, T1, f3, f4, f5, f6⟩ := finCells_spec (w := w) (i := i) (B := bid i) (d := .agg x.1) cs 0 (c.toCells ti) (put objs i none) x.1 x.2 cc.toList hx (by rw [k2, Array.length_toList, k1]) (fun id o ho => hobj id o (hsub id o ho)) (fun j s u hs hu => k3 j s u hs (by simpa using hu)) (fun j d0 hj => by
            rw [Nat.zero_add]; show x.1.getD j .no = d0; rw [List.getD_eq_getElem?_getD, hj]; rfl)
          obtain ⟨T2, objs', h1, h2, h3, h4⟩ := ih (i + 1) (n + 1) x.2 r' hr' (fun id o ho => hobj id o (hsub id o (f5.sub id o ho))) (fun j hj => by have := hd (j + 1) (by simp; omega); rw [show n + 1 + j = n + (j + 1) by omega, this]; rfl)
          refine ⟨⟨bid i, .box u (.cells (mkCells (bid i) cs 0 (.agg x.1))), ι i, some i⟩ :: (T1 ++ T2), objs', ?_, (SrcOK.row hob _ _).app (f5.app h2), ?_, ?_⟩
          · simp only [boxesP, boxObjs, e0, f3.symm, h1]
            rw [← osT_append]; rfl
          · intro y hy
            rcases List.mem_cons.1 hy with rfl | hy
            · refine .inr ⟨u, cs, .agg x.1, ti, b, cc, i, rfl, hti, g2, rfl, g3, k1, by rw [f1, k2], fun j k v hk hv => ?_⟩
              have hlt : j < x.1.length := by rw [f2]; exact (List.getElem?_eq_some_iff.1 hk).1
              have := f6 j k v x.1[j] hk hv (List.getElem?_eq_getElem hlt)
              have e1 : (D.agg x.1).cell (0 + j) = x.1[j] := by
                rw [Nat.zero_add]; show x.1.getD j .no = x.1[j]; rw [List.getD_eq_getElem?_getD, List.getElem?_eq_getElem hlt]; rfl
              rw [e1]
              exact this.mono fun z hz => List.mem_cons_of_mem _ (List.mem_append_left _ hz)
            · rcases List.mem_append.1 hy with hy | hy
              · exact .inl (f4 y hy)
              · exact (h3 y hy).mono fun z hz => List.mem_cons_of_mem _ (List.mem_append_right _ hz)
          · intro q t' cs' hq
            cases q with
            | zero => exact ⟨⟨_, List.mem_cons_self, rfl, rfl⟩, hpar, b, g2⟩
            | succ q =>
              obtain ⟨⟨y, y1, y2, y3⟩, q2, q3⟩ := h4 q t' cs' (by simpa using hq)
              rw [show i + 1 + q = i + (q + 1) by omega] at y2 y3 q2 q3
              exact ⟨⟨y, List.mem_cons_of_mem _ (List.mem_append_right _ y1), y2, y3⟩, q2, q3⟩
    | val k => exact skip h rfl (fun _ _ e => by cases e)
    | own e => exact skip h rfl (fun _ _ e => by cases e)
    | ref k => exact skip h rfl (fun _ _ e => by cases e)

end
end Go.Proofs.Ytbinmfenhbpdnaa.DS

namespace Go.Proofs.Ytbinmfenhbpdnaa.DS

section
variable {P : Program} {E : Env}

def resultVal (us : List Value) : Value := match us with | [u] => u | l => .tuple l.toArray

theorem run_results {fn : Func} {tmps : Array Value} (w : World) (h : ∀ rv ∈ fn.results.toList, GoodRV P w tmps rv) : (results fn tmps).run P w = .ok (resultVal (fn.results.toList.map (resVal P w tmps))) w := by
  have key : ∀ (l : List ResultVar), (∀ rv ∈ l, GoodRV P w tmps rv) → (l.mapM (m := Sem) fun rv => match rv with
      | .tmp t => pure (tmps.getD t undef)
      | .cell a t => do loadVar t (← asAddr (tmps.getD a undef))).run P w = .ok (l.map (resVal P w tmps)) w := by
    intro l
    induction l with
    | nil => intro _; simp
    | cons x r ih =>
      intro h
      have hx := h x List.mem_cons_self
      cases x with
      | tmp t =>
        simp only [List.mapM_cons, Sem.run_bind, Sem.run_pure, Result.andThen_ok, ih (fun rv hrv => h rv (List.mem_cons_of_mem _ hrv)), List.map_cons]
        rfl
      | cell t ty =>
        obtain ⟨u, hu⟩ := hx
        have e : resVal P w tmps (.cell t ty) = u := by simp only [resVal, hu]
        rw [List.mapM_cons, Sem.run_bind]
        erw [hu]
        simp only [Sem.run_bind, Sem.run_pure, Result.andThen_ok, ih (fun rv hrv => h rv (List.mem_cons_of_mem _ hrv)), List.map_cons, e]
  unfold results
  rw [Array.mapM_eq_mapM_toList]
  have hk := key fn.results.toList h
  rw [Sem.run_bind, map_eq_pure_bind, Sem.run_bind]
  erw [hk]
  simp only [Result.andThen_ok, Sem.run_pure]
  generalize fn.results.toList.map (resVal P w tmps) = us
  cases us with
  | nil => rfl
  | cons u r => cases r <;> rfl

theorem finRes_len {st : St} : ∀ (vs : List ResultVar) (rs : List RM) (x : List D × (Nat → Option Obj)), finRes E st vs rs = some x → vs.length = rs.length := by
  intro vs rs x h
  have key : ∀ (vs : List ResultVar) (rs : List RM) (n : Nat) (slots : Nat → Option SV) (objs : Nat → Option Obj) (x : List D × (Nat → Option Obj)), finRes E ⟨n, slots, objs⟩ vs rs = some x → vs.length = rs.length := by
    intro vs
    induction vs with
    | nil => intro rs n slots objs x h; cases rs with | nil => rfl | cons _ _ => cases h
    | cons v vs ih =>
      intro rs n slots objs x h
      cases rs with
      | nil => cases v <;> cases h
      | cons r rs =>
        cases v with
        | cell t ty =>
          cases r with
          | own e => cases h
          | any => cases h
          | val k =>
            simp only [finRes] at h
            replace h := opt_some.1 h
            obtain ⟨s, hs, h⟩ := h
            replace h := opt_some.1 h
            obtain ⟨d, hd, h⟩ := h
            replace h := opt_some.1 h
            obtain ⟨y, hy, h⟩ := h
            simp [ih rs n slots objs y hy]
        | tmp t =>
          cases r with
          | any =>
            simp only [finRes] at h
            replace h := opt_some.1 h
            obtain ⟨y, hy, h⟩ := h
            simp [ih rs n slots objs y hy]
          | val k =>
            simp only [finRes] at h
            replace h := opt_some.1 h
            obtain ⟨s, hs, h⟩ := h
            replace h := opt_some.1 h
            obtain ⟨d, hd, h⟩ := h
            replace h := opt_some.1 h
            obtain ⟨y, hy, h⟩ := h
            simp [ih rs n slots objs y hy]
          | own e =>
            simp only [finRes] at h
            replace h := opt_some.1 h
            obtain ⟨s, hs, h⟩ := h
            cases s with
            | nil =>
              simp only at h
              cases hei : lk e E.tt with
              | none => rw [hei] at h; cases h
              | some ei =>
                rw [hei] at h
                replace h := cond_some.1 h
                obtain ⟨_, h⟩ := h
                replace h := opt_some.1 h
                obtain ⟨y, hy, h⟩ := h
                simp [ih rs n slots objs y hy]
            | own i =>
              simp only at h
              cases hob : objs i with
              | none => rw [hob] at h; cases h
              | some o =>
                rw [hob] at h
                cases o with
                | box _ _ => cases h
                | arr e' es =>
                  replace h := cond_some.1 h
                  obtain ⟨_, h⟩ := h
                  replace h := opt_some.1 h
                  obtain ⟨y, hy, h⟩ := h
                  simp [ih rs n slots _ y hy]
            | _ => cases h
  cases st with
  | mk n slots objs => exact key vs rs n slots objs x h

theorem nodupL_nd {l : List Nat} : nodupL l = true → l.Nodup := by
  induction l with
  | nil => intro _; exact .nil
  | cons x r ih =>
    intro h
    simp only [nodupL] at h
    cases hb : memN x r with
    | true => rw [hb] at h; cases h
    | false =>
      rw [hb] at h
      exact List.nodup_cons.2 ⟨memN_false hb, ih h⟩

theorem Tr_dis {T : List Tr} {R : Tr → Tr → Prop} (hp : T.Pairwise R) (hs : ∀ x y, R x y → R y x) {x y : Tr} (hx : x ∈ T) (hy : y ∈ T) (hne : x ≠ y) : R x y := by
  obtain ⟨i, hi, rfl⟩ := List.getElem_of_mem hx
  obtain ⟨j, hj, rfl⟩ := List.getElem_of_mem hy
  rw [List.pairwise_iff_getElem] at hp
  rcases Nat.lt_trichotomy i j with h | h | h
  · exact hp i j hi hj h
  · subst h; exact absurd rfl hne
  · exact hs _ _ (hp j i hj hi h)

/-- A function's end. -/
theorem fin_ret (hT : TTok P E.tt) {X : Nat → Prop} {w w' : World} {M : Mem} {pv : Nat → Option Value} {st : St} {a : Act} (h : SI E X w M pv st a w') {fn : Func} {ps : List PM} {rs : List RM} {vs : List Value}
    (hpv : ∀ p t cs, ps[p]? = some (.box t cs) → pv p = vs[p]? ∧ p < vs.length) {x : List D × (Nat → Option Obj)} {r : List D} (hf : finRes E st fn.results.toList rs = some x) (hb : finBoxes E st.slots ps 0 x.2 = some r) :
    ∃ v, (results fn a.tmps).run P w' = .ok v w' ∧ RetOK E X w M ps rs vs (x.1 ++ r) v w' := by
  obtain ⟨⟨ι, M', H, hs⟩, hwf, hsz, hdf, hpin⟩ := h
  cases st with
  | mk n slots objs =>
    have key := fun base => finRes_spec (P := P) (w := w') hT H.mem n slots hs base (x.1 ++ r) fn.results.toList rs 0 x.1 objs x.2 H.obj (fun i hi => by rw [Nat.zero_add, List.getD_eq_getElem?_getD, List.getD_eq_getElem?_getD, List.getElem?_append_left hi]) hf
    refine ⟨_, run_results w' (key 0).1, ?_⟩
    intro base bid svs os hr hnd
    obtain ⟨_, hlen, hres⟩ := key base
    obtain ⟨T1, k1, k2, k3, k4, k5⟩ := hres svs os hr
    obtain ⟨T2, objs', b1, b2, b3, b4⟩ := finBoxes_spec hT (w := w') bid (x.1 ++ r) ps 0 rs.length x.2 r hb (fun id o ho => H.obj id o (k3.sub id o ho)) (fun j hj => by
      rw [List.getD_eq_getElem?_getD, List.getD_eq_getElem?_getD, ← hlen, List.getElem?_append_right (Nat.le_add_right _ _), Nat.add_sub_cancel_left])
    subst k1
    rw [b1] at hnd ⊢
    rw [← osT_append] at hnd ⊢
    rw [keysT] at hnd
    have hnd := nodupL_nd hnd
    have S := k3.app b2
    have hall : ∀ y ∈ T1 ++ T2, TrOK E ι M' w' (T1 ++ T2) y := fun y hy => by
      rcases List.mem_append.1 hy with hy | hy
      · exact .inl (k2 y hy)
      · exact (b3 y hy).mono fun z hz => List.mem_append_right _ hz
    generalize hU : T1 ++ T2 = U at hnd S hall
    have hm1 : ∀ y ∈ T1, y ∈ U := fun y hy => by rw [← hU]; exact List.mem_append_left _ hy
    have hm2 : ∀ y ∈ T2, y ∈ U := fun y hy => by rw [← hU]; exact List.mem_append_right _ hy
    have hv : ∀ y ∈ U, valT U y.id = y.v := fun y hy => (valT_mem hnd hy).1
    refine ⟨valT U, M', ⟨?_, ?_, ?_, H.mem, H.memx, H.memB, H.os, H.tape, H.output, H.size, H.keep⟩, ?_, ?_, ?_⟩
    · intro id o ho
      obtain ⟨y, hy, rfl, rfl, e⟩ := lk_osT ho
      rcases hall y hy with ⟨e', es, ei, q1, q2, q3, q4⟩ | ⟨t, cs, d, ti, b, cc, i, q1, q2, q3, q4, q5, q6, q7, q8⟩
      · rw [q1]; exact ⟨ei, q2, q3, by rw [e]; exact q4⟩
      · rw [q1]
        refine ⟨ti, b, cc, q2, e.trans q3, q5, q6, by rw [mkCells_length, q7], fun j s u hj hu => ?_⟩
        rw [mkCells_get, Option.map_eq_some_iff] at hj
        obtain ⟨k, hk, rfl⟩ := hj
        have := q8 j k u hk (by simpa using hu)
        cases k with
        | val q =>
          have hc : Rep E.tt M' q u (d.cell (0 + j)) := this
          show Rep E.tt M' q u _
          rw [hc.canon]; exact hc
        | row e2 =>
          obtain ⟨z, z1, z2, z3, z4⟩ := this
          have := hv z z1
          rw [z2] at this
          exact ⟨by rw [this, z3], by rw [this, z3]; exact z4⟩
        | self =>
          rcases this with g | ⟨b', g1, g2⟩
          · exact .inl g
          · exact .inr ⟨b', by rw [e, q4]; exact g1, g2⟩
    · intro id id' o o' b h1 h2 hne hb1 hb2
      obtain ⟨y, hy, rfl, rfl, e⟩ := lk_osT h1
      obtain ⟨y', hy', rfl, rfl, e'⟩ := lk_osT h2
      rw [e] at hb1; rw [e'] at hb2
      have hdis := Tr_dis S.dis (fun x y hxy j hj hi => hxy j hi hj) hy hy' (fun e => hne (by rw [e]))
      rcases S.src y hy with ⟨_, g⟩ | ⟨j, o1, g1, g2, g3, g4⟩
      · rw [g] at hb1; cases hb1
      · rcases S.src y' hy' with ⟨_, g⟩ | ⟨j', o2, g1', g2', g3', g4'⟩
        · rw [g] at hb2; cases hb2
        · rw [g4] at hb1; rw [g4'] at hb2
          exact H.disj j j' o1 o2 b g2 g2' (fun e => hdis j g1 (by rw [g1', e])) hb1 hb2
    · intro id o b h1 hb1
      obtain ⟨y, hy, rfl, rfl, e⟩ := lk_osT h1
      rw [e] at hb1
      rcases S.src y hy with ⟨_, g⟩ | ⟨j, o1, g1, g2, g3, g4⟩
      · rw [g] at hb1; cases hb1
      · rw [g4] at hb1; exact H.own j o1 b g2 hb1
    · have k1 : ∀ (i : Nat) (s : SV) (u : Value), svs[i]? = some s → (fn.results.toList.map (resVal P w' a.tmps))[i]? = some u → SVRel0 E.tt (valT U) M' s u := by
        intro i s u h1 h2
        rcases k5 i s u h1 h2 with ⟨k, d, rfl, g⟩ | ⟨z, z1, rfl, z3, z4⟩ | rfl
        · exact g
        · have := hv z (hm1 z z1)
          exact ⟨by rw [this, z3], by rw [this, ← z3]; exact z4⟩
        · exact trivial
      have k8 : svs.length = (fn.results.toList.map (resVal P w' a.tmps)).length := by rw [k4, List.length_map]
      generalize fn.results.toList.map (resVal P w' a.tmps) = us at k1 k8
      have htup : SVRel E.tt (valT U) M' (.tup svs) (.tuple us.toArray) := ⟨us, rfl, k8.symm, k1⟩
      match svs, us, k8, k1, htup with
      | [], [], _, _, htup => exact htup
      | [s], [u], _, k1, _ => exact .of0 (k1 0 s u rfl rfl)
      | _ :: _ :: _, _ :: _ :: _, _, _, htup => exact htup
    · intro i hi
      have hi : ∃ s ∈ svs, i ∈ refs0 s := by
        obtain ⟨_, _, n3, _, n5⟩ := resSV_spec rs base 0 _ svs _ hr
        have : i ∈ refsL svs := by
          match svs, hi, n3, n5 with
          | [], hi, _, _ => exact hi
          | [s], hi, n3, n5 =>
            simp only [refsL, List.append_nil]
            cases s with
            | tup t => exact absurd List.mem_cons_self (n3 t)
            | sag t ks l => exact absurd List.mem_cons_self (n5 t ks l)
            | _ => exact hi
          | _ :: _ :: _, hi, _, _ => exact hi
        exact mem_refsL.1 this
      obtain ⟨s, h1, h2⟩ := hi
      exact (resSV_spec rs base 0 _ svs _ hr).2.1 s h1 i h2
    · intro p t cs hp
      obtain ⟨⟨y, y1, y2, y3⟩, q2, b, q3⟩ := b4 p t cs hp
      rw [Nat.zero_add] at y2 y3 q2 q3
      have e1 := hv y (hm2 y y1)
      rw [y2] at e1
      obtain ⟨p1, p2⟩ := hpv p t cs hp
      have hsl : ∃ u k, slots p = some (.bptr p u 0 k) := by
        unfold isPar at q2
        split at q2
        · rename_i j u off k hsl
          simp only [Bool.and_eq_true] at q2
          have a1 := beq_iff.1 q2.1
          have a2 := beq_iff.1 q2.2
          subst a1 a2
          exact ⟨u, k, hsl⟩
        · cases q2
      obtain ⟨u, k, hsl⟩ := hsl
      obtain ⟨_, b', c1, c2⟩ := hs p _ hsl
      rw [q3] at c1; injection c1 with c1; injection c1 with c1; injection c1 with c1
      have hpp := hpin p vs[p] (by rw [p1]; exact List.getElem?_eq_getElem p2)
      rw [List.getElem?_eq_getElem p2, e1, y3, q3, ← hpp, c2, c1]

structure EnvOK (P : Program) (E : Env) (W0 : World) : Prop where
  mixed : P.follows .mixedOrders = true
  tt : TTok P E.tt
  fns : ∀ f fn, lk f E.fns = some fn → FnOK P E f fn
  ext : ∀ f g, lk f E.ext = some g → ∀ sg ds r, lk f E.sigs = some sg → g ds = some r → ∀ (w : World) (M : Mem) (vs : List Value) (X : Nat → Prop), Same W0 w → (∀ b, X b → W0.heap.size ≤ b) → ArgsOK E X w M sg.params vs ds →
    CallsF P f vs.toArray w (RetOK E X w M sg.outs sg.results vs r)

theorem boxPs_mem : ∀ (ps : List PM) (i q : Nat) (t : TypeId) (cs : List CK), ps[q]? = some (.box t cs) → (i + q) ∈ boxPs ps i := by
  intro ps
  induction ps with
  | nil => intro i q t cs h; simp at h
  | cons p r ih =>
    intro i q t cs h
    cases q with
    | zero => simp at h; subst h; exact List.mem_cons_self
    | succ q =>
      have := ih (i + 1) q t cs (by simpa using h)
      rw [show i + 1 + q = i + (q + 1) by omega] at this
      cases p with
      | box _ _ => exact List.mem_cons_of_mem _ this
      | _ => exact this

theorem run_sound {W0 : World} (hE : EnvOK P E W0) : ∀ k, CallOK P E W0 (run E k) := by
  intro k
  induction k with
  | zero => intro f sg ds r _ h; cases h
  | succ k ih =>
    intro f sg ds r hsg h w M vs X hS hX hargs
    simp only [run] at h
    cases hx : lk f E.ext with
    | some g => rw [hx] at h; exact hE.ext f g hx sg ds r hsg h w M vs X hS hX hargs
    | none =>
      rw [hx] at h
      obtain ⟨fn, hfn, h⟩ := opt_some.1 h
      obtain ⟨sg', hsg', h⟩ := opt_some.1 h
      rw [hsg] at hsg'; injection hsg' with hsg'; subst hsg'
      obtain ⟨c, hc, h⟩ := opt_some.1 h
      replace h := opt_some.1 h
      obtain ⟨sl, hsl, h⟩ := h
      replace h := opt_some.1 h
      obtain ⟨st, hst, h⟩ := h
      have hF := hE.fns f fn hfn
      obtain ⟨hlen, sl1, sl2, ι, hp, H, hslots, hcells⟩ := hargs
      rw [hsl] at hp; injection hp with hp; subst hp
      have hsize : vs.length ≤ fn.ntmps := by rw [hlen]; exact hF.size sg hsg
      let pv : Nat → Option Value := fun p => cond (memN p (boxPs sg.params 0)) vs[p]? none
      have hpv : ∀ p v, pv p = some v → p ∈ boxPs sg.params 0 := fun p v hp => by
        cases hb : memN p (boxPs sg.params 0) with
        | true => exact memN_iff.1 hb
        | false => simp only [pv, hb] at hp; cases hp
      have hpv2 : ∀ p t cs, sg.params[p]? = some (.box t cs) → pv p = vs[p]? ∧ p < vs.length := fun p t cs hp => by
        refine ⟨?_, by rw [hlen]; exact (List.getElem?_eq_some_iff.1 hp).1⟩
        have := boxPs_mem sg.params 0 p t cs hp
        rw [Nat.zero_add] at this
        simp only [pv, memN_iff.2 this, cond_true]
      left
      refine ⟨?_, calls_of_wp hF.get hc ?_⟩
      · have h1 := hF.get
        have h2 : ¬ fn.name = "runtime.NumGoroutine" := by simpa using hF.name
        simp [callFunc, h1, h2, hc]
      · have hev : ∀ t v, vs[t]? = some v → Act.eval { tmps := vs.toArray ++ Array.replicate (fn.ntmps - vs.toArray.size) undef, defers := [] } (.tmp t) = v := by
          intro t v hv
          have hlt : t < vs.length := (List.getElem?_eq_some_iff.1 hv).1
          simp only [Act.eval, Array.getD_eq_getD_getElem?]
          rw [Array.getElem?_append_left (by simpa using hlt)]
          simp [hv]
        have hSI : SI E X w M pv ⟨fn.ntmps, fun t => lk t sl1, fun i => lk i sl2⟩ { tmps := vs.toArray ++ Array.replicate (fn.ntmps - vs.toArray.size) undef, defers := [] } w := by
          refine ⟨⟨ι, M, H, ?_⟩, ⟨fun t s ht i hi => (hslots t s ht).2 i hi, fun j o hj i hi => hcells j o hj i hi⟩, ?_, rfl, ?_⟩
          · intro t s ht
            obtain ⟨⟨v, hv, hrep⟩, _⟩ := hslots t s ht
            rw [hev t v hv]; exact hrep
          · simp; omega
          · intro p v hp
            refine hev p v ?_
            cases hb : memN p (boxPs sg.params 0) with
            | true => simp only [pv, hb, cond_true] at hp; exact hp
            | false => simp only [pv, hb] at hp; cases hp
        have hfin : ∀ st' a' w', SI E X w M pv st' a' w' → finK E fn sg .normal st' = some r → a'.defers = [] ∧ ∃ v, (results fn a'.tmps).run P w' = .ok v w' ∧ RetOK E X w M sg.outs sg.results vs r v w' := by
          intro st' a' w' h' hk
          unfold finK at hk
          have hgn : sg.gone = false := by
            cases hg : sg.gone with
            | true => rw [hg] at hk; cases hk
            | false => rfl
          have ho : sg.outs = sg.params := by unfold Sig.outs; rw [hgn]; rfl
          rw [hgn] at hk
          simp only [cond_false] at hk
          obtain ⟨st2, h2, hk⟩ := opt_some.1 hk
          obtain ⟨st3, h3, hk⟩ := opt_some.1 hk
          obtain ⟨x, hx, hk⟩ := opt_some.1 hk
          obtain ⟨rb, hrb, hk⟩ := opt_some.1 hk
          injection hk with hk; subst hk
          obtain ⟨v, h1, h3⟩ := fin_ret hE.tt (frzBoxes_sound _ _ _ (frzSlots_sound _ _ _ h' h2) h3) hpv2 hx hrb
          rw [ho]
          exact ⟨h'.defers, v, h1, h3⟩
        refine exec_sound hE.mixed hE.tt hS hX ih hpv c (hF.code c hc) (hF.pins sg hsg c hc) _ _ r st _ w (normAt_sound hSI hst) h ?_
        intro e st' a' w' h' hk
        cases e with
        | normal => exact hfin st' a' w' h' hk
        | exit i => cases hk
        | ret => exact hfin st' a' w' h' hk

end
end Go.Proofs.Ytbinmfenhbpdnaa.DS
