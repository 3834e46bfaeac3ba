/- Regions whose order is open: what may change places. -/
import Derived.Test.YtjofkhdnidjleabDoorDsP
import Derived.Orders
set_option linter.unusedVariables false
set_option linter.unusedSimpArgs false
namespace Go.Proofs.YtjofkhdnidjleabDoor.DS

def dstIs (o : Oper) (t : Nat) : Bool := match o.dst with | some d => Nat.beq d t | none => false
def dstIn (o : Oper) (l : List Nat) : Bool := match o.dst with | some d => memN d l | none => false
def indep (ops : List Oper) (i j : Nat) : Bool :=
  match nthOp ops i, nthOp ops j with
  | some oi, some oj => (!(opEff oi).all && !(opEff oj).all) && (!dstIn oi (usesOf ops j) && (!dstIn oj (usesOf ops i) && (match oi.dst, oj.dst with | some d, some d' => !Nat.beq d d' | _, _ => true)))
  | _, _ => false
def allBelow (n : Nat) (p : Nat → Bool) : Bool := match n with | 0 => true | n + 1 => cond (p n) (allBelow n p) false
theorem allBelow_spec {n : Nat} {p : Nat → Bool} (h : allBelow n p = true) : ∀ i, i < n → p i = true := by
  induction n with
  | zero => intro i hi; omega
  | succ n ih =>
    simp only [allBelow] at h
    cases hp : p n with
    | false => rw [hp] at h; cases h
    | true =>
      rw [hp] at h
      intro i hi
      by_cases e : i = n
      · rw [e]; exact hp
      · exact ih h i (by omega)
def pairsOk (ops : List Oper) (an : List (List Nat)) : Bool := allBelow ops.length fun j => allBelow j fun i => memN i (an.getD j []) || indep ops i j
def edgesOk (ops : List Oper) : Bool := allBelow ops.length fun i => match nthOp ops i with
  | some o => (anyEdges o).all fun e => Nat.ble (e + 1) i
  | none => false
def guardsOk (ops : List Oper) (draw : Bool) : Bool := allBelow ops.length fun i => match nthOp ops i with
  | some o => match o.guard with
    | none => true
    | some (j, _) => Nat.ble (j + 1) i && ((match nthOp ops j with | some oj => oj.dst.isSome | none => false) && (!draw || memN j (anyEdges o)))
  | none => false
def dstsOf : List Oper → List Nat
  | [] => []
  | o :: r => match o.dst with | some d => d :: dstsOf r | none => dstsOf r
def okRegion (ops : List Oper) (draw : Bool) : Bool :=
  nodupN (dstsOf ops) && (guardsOk ops draw && (!draw || (edgesOk ops && pairsOk ops (ancs ops))))
def okCode : Code → Bool
  | .region _ ops draw => okRegion ops.toList draw
  | .seq a b => okCode a && okCode b
  | .cond _ a b => okCode a && okCode b
  | .block _ c => okCode c
  | .loop c => okCode c
  | .skip | .exit _ | .ret => true
  | _ => false

/-- The boxes among the parameters; code that writes none of their slots. -/
def boxPs : List PM → Nat → List Nat
  | [], _ => []
  | .box _ _ :: r, i => i :: boxPs r (i + 1)
  | _ :: r, i => boxPs r (i + 1)
def noDstL (pins : List Nat) : List Oper → Bool
  | [] => true
  | o :: r => (match o.dst with | some t => !memN t pins | none => true) && noDstL pins r
def noDst (pins : List Nat) : Code → Bool
  | .region _ ops _ => noDstL pins ops.toList
  | .seq a b => noDst pins a && noDst pins b
  | .cond _ a b => noDst pins a && noDst pins b
  | .block _ c => noDst pins c
  | .loop c => noDst pins c
  | _ => true
theorem noDstL_spec {pins : List Nat} : ∀ {ops : List Oper}, noDstL pins ops = true → ∀ i o, nthOp ops i = some o → ∀ t, o.dst = some t → t ∉ pins := by
  intro ops
  induction ops with
  | nil => intro _ i o h; cases i <;> cases h
  | cons x r ih =>
    intro h i o hi t ht
    simp only [noDstL, Bool.and_eq_true] at h
    cases i with
    | zero =>
      injection hi with hi; subst hi
      have h1 := h.1
      rw [ht] at h1
      simp only [Bool.not_eq_true'] at h1
      intro hm
      rw [memN_iff.2 hm] at h1; cases h1
    | succ i => exact ih h.2 i o hi t ht

section
variable {E : Env} {draw : Bool} {st st' : St} {ops : List Oper} {L : List (Nat × Bool)}

/-- What an operation does hangs on its operands' slots, and on what these name. -/
theorem ev_congr {x : Operand} (h : ∀ t, x = .tmp t → st'.slots t = st.slots t) : ev st' ops L x = ev st ops L x := by
  cases x with
  | tmp t => simp only [ev, h t rfl]
  | _ => rfl
theorem evPick_congr {x : Operand} {c : Nat} {b : Bool} (h : ∀ t, x = .tmp t → st'.slots t = st.slots t) : evPick st' ops L c b x = evPick st ops L c b x := by
  cases x with
  | tmp t => simp only [evPick, h t rfl]
  | _ => rfl
theorem evInt_congr {x : Operand} (h : ∀ t, x = .tmp t → st'.slots t = st.slots t) : evInt st' ops L x = evInt st ops L x := by
  unfold evInt; rw [ev_congr h]
theorem optInt_congr {x : Option Operand} (h : ∀ t, x = some (.tmp t) → st'.slots t = st.slots t) : optInt st' ops L x = optInt st ops L x := by
  cases x with
  | none => rfl
  | some x => simp only [optInt]; rw [evInt_congr (fun t e => h t (by rw [e]))]
theorem ev_refs {x : Operand} {s : SV} (h : ev st ops L x = some s) {i : Nat} (hi : i ∈ refsOf s) : ∃ t, x = .tmp t ∧ st.slots t = some s := by
  cases x with
  | tmp t => exact ⟨t, rfl, (cond_some.1 h).2⟩
  | const v =>
    exfalso
    simp only [ev] at h
    unfold constSV at h
    split at h
    · injection h with h; subst h; cases hi
    · have := (cond_some.1 h).2; injection this with this; subst this; cases hi
    · have := (cond_some.1 h).2; injection this with this; subst this; cases hi
    · injection h with h; subst h; cases hi
    · injection h with h; subst h; cases hi
    · cases h
  | _ => cases h
theorem fill_congr {fields : List (Nat × TypeId)} (ps : List (Nat × Operand)) (h : ∀ p ∈ ps, ∀ t, p.2 = .tmp t → st'.slots t = st.slots t) : ∀ cs, fillD E st' ops L fields ps cs = fillD E st ops L fields ps cs := by
  induction ps with
  | nil => intro cs; rfl
  | cons p r ih =>
    obtain ⟨i, x⟩ := p
    intro cs
    simp only [fillD]
    rw [ev_congr (h (i, x) List.mem_cons_self)]
    have ih' := ih (fun p hp => h p (List.mem_cons_of_mem _ hp))
    simp only [ih']
theorem fillS_congr {fields : List (Nat × TypeId)} (ps : List (Nat × Operand)) (h : ∀ p ∈ ps, ∀ t, p.2 = .tmp t → st'.slots t = st.slots t) : ∀ cs, fillS E st' ops L fields ps cs = fillS E st ops L fields ps cs := by
  induction ps with
  | nil => intro cs; rfl
  | cons p r ih =>
    obtain ⟨i, x⟩ := p
    intro cs
    simp only [fillS]
    rw [ev_congr (h (i, x) List.mem_cons_self)]
    have ih' := ih (fun p hp => h p (List.mem_cons_of_mem _ hp))
    simp only [ih']
theorem elems_congr {k : KT} (ps : List (Nat × Operand)) (h : ∀ p ∈ ps, ∀ t, p.2 = .tmp t → st'.slots t = st.slots t) : ∀ n, elemsD st' ops L k n ps = elemsD st ops L k n ps := by
  induction ps with
  | nil => intro n; rfl
  | cons p r ih =>
    obtain ⟨i, x⟩ := p
    intro n
    simp only [elemsD]
    rw [ev_congr (h (i, x) List.mem_cons_self)]
    have ih' := ih (fun p hp => h p (List.mem_cons_of_mem _ hp))
    simp only [ih']
theorem mmFold_congr {isMax : Bool} {k : IntKind} (xs : List Operand) (h : ∀ x ∈ xs, ∀ t, x = .tmp t → st'.slots t = st.slots t) : ∀ n, mmFold st' ops L isMax k xs n = mmFold st ops L isMax k xs n := by
  induction xs with
  | nil => intro n; rfl
  | cons x r ih =>
    intro n
    simp only [mmFold]
    rw [ev_congr (h x List.mem_cons_self)]
    have ih' := ih (fun p hp => h p (List.mem_cons_of_mem _ hp))
    simp only [ih']
theorem argD_congr {b : Bool} {k : KT} {s : SV} (h : ∀ i, i ∈ refsOf s → st'.objs i = st.objs i) : argD st' b k s = argD st b k s := by
  cases s with
  | own i => simp only [argD, h i (by simp [refsOf, refs0])]
  | _ => rfl
theorem args_congr {b : Bool} (ps : List PM) : ∀ (xs : List Operand), (∀ x ∈ xs, ∀ t, x = .tmp t → st'.slots t = st.slots t) → (∀ x ∈ xs, ∀ s, ev st ops L x = some s → ∀ i, i ∈ refsOf s → st'.objs i = st.objs i) → argsO st' ops L b ps xs = argsO st ops L b ps xs := by
  induction ps with
  | nil => intro xs h _; cases xs <;> rfl
  | cons p r ih =>
    intro xs h ho
    cases xs with
    | nil => cases p <;> rfl
    | cons x xs =>
      cases p with
      | val k =>
        simp only [argsO]
        rw [ev_congr (h x List.mem_cons_self), ih xs (fun y hy => h y (List.mem_cons_of_mem _ hy)) (fun y hy => ho y (List.mem_cons_of_mem _ hy))]
        cases hs : ev st ops L x with
        | none => rfl
        | some s =>
          show opt (argD st' b k s) _ = opt (argD st b k s) _
          rw [argD_congr (ho x List.mem_cons_self s hs)]
      | _ => rfl

theorem opt_val {α β : Type} (x : α) (f : α → Option β) : opt (some x) f = f x := rfl
theorem withObj_congr {dst : Option Nat} {ob : Obj} {vv : Nat → SV} {c : Bool} (hf : ∀ d, dst = some d → fresh st' d = fresh st d) : withObj st' dst ob vv c = withObj st dst ob vv c := by
  cases dst with
  | none => rfl
  | some d => simp only [withObj, hf d rfl]

theorem opdsUses_mem {x : Operand} {l : List Operand} {t : Nat} (hx : x ∈ l) (ht : x = .tmp t) : t ∈ opdsUses l := by
  induction l with
  | nil => cases hx
  | cons y r ih =>
    simp only [opdsUses, List.mem_append]
    rcases List.mem_cons.1 hx with rfl | hx
    · left; rw [ht]; simp [opdUses]
    · right; exact ih hx

theorem opO_congr (o : Oper) (hn : (opEff o).all = false) (hs : ∀ t, t ∈ opdsUses o.op.operands.toList → st'.slots t = st.slots t) (hf : ∀ d, o.dst = some d → fresh st' d = fresh st d)
    (ho : (opEff o).reads = true ∨ (opEff o).writes = true → ∀ t s, t ∈ opdsUses o.op.operands.toList → st.slots t = some s → ∀ i, i ∈ refsOf s → st'.objs i = st.objs i) : opO E true st' ops L o = opO E true st ops L o := by
  have hx : ∀ x ∈ o.op.operands.toList, ∀ t, x = .tmp t → st'.slots t = st.slots t := fun x hx t e => hs t (opdsUses_mem hx e)
  have hev : ∀ x ∈ o.op.operands.toList, ev st' ops L x = ev st ops L x := fun x h => ev_congr (hx x h)
  have hob : (opEff o).reads = true ∨ (opEff o).writes = true → ∀ x ∈ o.op.operands.toList, ∀ s, ev st ops L x = some s → ∀ i, i ∈ refsOf s → st'.objs i = st.objs i := by
    intro hrw x hx s he i hi
    obtain ⟨t, rfl, hts⟩ := ev_refs he hi
    exact ho hrw t s (opdsUses_mem hx rfl) hts i hi
  unfold opO
  cases hop : o.op with
  | move x =>
    have h1 := hev x (by simp [hop, Op.operands])
    cases x with
    | const v => rfl
    | _ => simp only [moveO, h1]
  | assign x =>
    have h1 := hev x (by simp [hop, Op.operands])
    cases x with
    | const v => rfl
    | _ => simp only [moveO, h1]
  | pick c a b =>
    simp only [pickO]
    rw [hev c (by simp [hop, Op.operands])]
    have ha : ∀ tc b', evPick st' ops L tc b' a = evPick st ops L tc b' a := fun tc b' => evPick_congr (hx a (by simp [hop, Op.operands]))
    have hb : ∀ tc b', evPick st' ops L tc b' b = evPick st ops L tc b' b := fun tc b' => evPick_congr (hx b (by simp [hop, Op.operands]))
    simp only [ha, hb]
  | alloc t => simp only [allocO, withObj_congr hf]
  | box t x =>
    simp only [boxO]
    rw [hev x (by simp [hop, Op.operands])]
    simp only [withObj_congr hf]
  | build t ps =>
    simp only [buildO]
    rw [show fillD E st' ops L = fillD E st' ops L from rfl]
    have := fun fields => fill_congr (E := E) (L := L) (ops := ops) (fields := fields) ps.toList (fun p hp t e => hx p.2 (by simp [hop, Op.operands]; exact ⟨p.1, Array.mem_toList_iff.1 hp⟩) t e)
    have this2 := fun fields => fillS_congr (E := E) (L := L) (ops := ops) (fields := fields) ps.toList (fun p hp t e => hx p.2 (by simp [hop, Op.operands]; exact ⟨p.1, Array.mem_toList_iff.1 hp⟩) t e)
    simp only [this, this2]
  | buildSlice t n ps =>
    simp only [buildSliceO]
    have := fun k => elems_congr (k := k) (L := L) (ops := ops) ps.toList (fun p hp t e => hx p.2 (by simp [hop, Op.operands]; exact ⟨p.1, Array.mem_toList_iff.1 hp⟩) t e)
    simp only [this, withObj_congr hf]
  | load t x =>
    simp only [loadO]
    have h1 := hev x (by simp [hop, Op.operands])
    rw [h1]
    have h2 := hob (.inl (by simp [opEff, hop])) x (by simp [hop, Op.operands])
    cases hs : ev st ops L x with
    | none => rfl
    | some s =>
      have h3 := h2 s hs
      cases s with
      | bptr id u off k => simp only [opt_val, h3 id (by simp [refsOf, refs0])]
      | optr id e i off k => simp only [opt_val, h3 id (by simp [refsOf, refs0])]
      | _ => rfl
  | store t x y =>
    simp only [storeO]
    rw [hev x (by simp [hop, Op.operands]), hev y (by simp [hop, Op.operands])]
    have h2 := hob (.inr (by simp [opEff, hop])) x (by simp [hop, Op.operands])
    cases hs : ev st ops L x with
    | none => rfl
    | some s =>
      have h3 := h2 s hs
      cases s with
      | bptr id u off k => simp only [opt_val, h3 id (by simp [refsOf, refs0])]
      | optr id e i off k => simp only [opt_val, h3 id (by simp [refsOf, refs0])]
      | _ => rfl
  | binOp op t x y yt =>
    simp only
    rw [hev x (by simp [hop, Op.operands]), hev y (by simp [hop, Op.operands])]
  | unOp op t x =>
    simp only
    rw [hev x (by simp [hop, Op.operands])]
  | convert s t x =>
    simp only [convertO]
    rw [hev x (by simp [hop, Op.operands])]
    have h2 := hob (.inl (by simp [opEff, hop])) x (by simp [hop, Op.operands])
    cases hs : ev st ops L x with
    | none => rfl
    | some q =>
      have h3 := h2 q hs
      cases lk s E.tt with
      | none => rfl
      | some si =>
        cases lk t E.tt with
        | none => rfl
        | some ti =>
          simp only [opt_val]
          cases q with
          | own id =>
            have h4 := h3 id (by simp [refsOf, refs0])
            cases si.kt <;> cases ti.kt <;> first | rfl | simp only [h4, withObj_congr hf]
          | val k d => cases si.kt <;> cases ti.kt <;> cases k <;> first | rfl | simp only [withObj_congr hf]
          | _ => cases si.kt <;> cases ti.kt <;> first | rfl | simp only [withObj_congr hf]
  | makeSlice t l c =>
    simp only [makeSliceO]
    rw [evInt_congr (hx l (by simp [hop, Op.operands])), evInt_congr (hx c (by simp [hop, Op.operands]))]
    simp only [withObj_congr hf]
  | slice t x lo hi mx =>
    simp only [sliceO]
    have h1 := hev x (by simp [hop, Op.operands])
    have hlo : optInt st' ops L lo = optInt st ops L lo := optInt_congr (fun t e => hx (.tmp t) (by simp [hop, Op.operands, e]) t rfl)
    have hhi : optInt st' ops L hi = optInt st ops L hi := optInt_congr (fun t e => hx (.tmp t) (by simp [hop, Op.operands, e]) t rfl)
    rw [h1, hlo, hhi]
    have h2 := hob (.inl (by simp [opEff, hop])) x (by simp [hop, Op.operands])
    cases mx with
    | some _ => rfl
    | none =>
      cases lk t E.tt with
      | none => rfl
      | some ti =>
        cases hs : ev st ops L x with
        | none => rfl
        | some s =>
          have h3 := h2 s hs
          cases optInt st ops L lo with
          | none => rfl
          | some l =>
            cases optInt st ops L hi with
            | none => rfl
            | some hh =>
              simp only [opt_val]
              cases s with
              | own id =>
                have h4 := h3 id (by simp [refsOf, refs0])
                cases ti.kt <;> first | rfl | simp only [h4]
              | val k d => cases ti.kt <;> cases k <;> rfl
              | _ => cases ti.kt <;> rfl
  | fieldAddr t x f =>
    simp only [fieldAddrO]
    rw [hev x (by simp [hop, Op.operands])]
  | field t x f =>
    simp only [fieldO]
    rw [hev x (by simp [hop, Op.operands])]
  | indexAddr t x y =>
    simp only [indexAddrO]
    rw [hev x (by simp [hop, Op.operands]), hev y (by simp [hop, Op.operands])]
    have h2 := hob (.inl (by simp [opEff, hop])) x (by simp [hop, Op.operands])
    cases lk t E.tt with
    | none => rfl
    | some ti =>
      cases hs : ev st ops L x with
      | none => rfl
      | some s =>
        have h3 := h2 s hs
        cases ev st ops L y with
        | none => rfl
        | some s2 =>
          simp only [opt_val]
          cases s with
          | own id =>
            have h4 := h3 id (by simp [refsOf, refs0])
            cases ti.kt <;> first | rfl | (cases s2 with
              | val k d => cases k <;> first | rfl | simp only [h4]
              | _ => rfl)
          | val k d => cases ti.kt <;> cases k <;> first | rfl | (cases s2 with
              | val k d => cases k <;> rfl
              | _ => rfl)
          | _ => cases ti.kt <;> cases s2 <;> rfl
  | index t x y =>
    simp only [indexO]
    rw [hev x (by simp [hop, Op.operands]), hev y (by simp [hop, Op.operands])]
  | nilCheck x =>
    simp only
    rw [hev x (by simp [hop, Op.operands])]
  | extract x i =>
    simp only
    rw [hev x (by simp [hop, Op.operands])]
  | call c =>
    have harg : ∀ x ∈ c.args.toList, x ∈ o.op.operands.toList := by
      intro x hx
      rw [hop]
      simp only [Op.operands, Call.operands, Array.toList_append, List.mem_append]
      exact .inr hx
    simp only [callO]
    split
    · rename_i g hcl
      have h5 := fun b ps => args_congr (L := L) (ops := ops) (b := b) ps _ (fun x h => hx x (harg x h)) (fun x h s hs => hob (.inl (by simp [opEff, hop, hcl])) x (harg x h) s hs)
      simp only [h5, cond_true]
    · rename_i hcl
      split
      · rename_i x t h1 h2
        have hmem := harg x (by rw [h1]; simp)
        simp only [lenO]
        rw [hev x hmem]
        have h2 := hob (.inl (by simp [opEff, hop, hcl])) x hmem
        cases lk t E.tt with
        | none => rfl
        | some ti =>
          cases hs : ev st ops L x with
          | none => rfl
          | some s =>
            have h3 := h2 s hs
            simp only [opt_val]
            cases s with
            | own id =>
              have h4 := h3 id (by simp [refsOf, refs0])
              cases ti.kt <;> first | rfl | simp only [h4]
            | val k d => cases ti.kt <;> cases k <;> rfl
            | _ => cases ti.kt <;> rfl
      · rfl
    · rename_i hcl
      simp [opEff, hop, hcl] at hn
    · generalize hl : c.args.toList = l at harg
      cases l with
      | nil => rfl
      | cons x r =>
        simp only [mmO]
        rw [hev x (harg x (by simp))]
        have := fun k n => mmFold_congr (isMax := true) (k := k) (L := L) (ops := ops) r (fun y hy => hx y (harg y (by simp [hy]))) n
        simp only [this]
    · generalize hl : c.args.toList = l at harg
      cases l with
      | nil => rfl
      | cons x r =>
        simp only [mmO]
        rw [hev x (harg x (by simp))]
        have := fun k n => mmFold_congr (isMax := false) (k := k) (L := L) (ops := ops) r (fun y hy => hx y (harg y (by simp [hy]))) n
        simp only [this]
    · rfl
    · rfl
  | makeFunc fn a b => cases fn <;> rfl
  | _ => rfl

end
end Go.Proofs.YtjofkhdnidjleabDoor.DS
