/- Tables and functions, checked. -/
import Derived.Test.YtjofkhdnidjleabDoorDtF
set_option linter.unusedVariables false
set_option linter.unusedSimpArgs false
namespace Go.Proofs.YtjofkhdnidjleabDoor.DS

def ktsEq : List KT → List KT → Bool
  | [], [] => true
  | a :: r, b :: s => KT.eq a b && ktsEq r s
  | _, _ => false
theorem ktsEq_iff {a b : List KT} : ktsEq a b = true ↔ a = b := by
  induction a generalizing b with
  | nil => cases b <;> simp [ktsEq]
  | cons x r ih => cases b <;> simp [ktsEq, KT.eq_iff, ih]
def fieldsEq : List (Nat × TypeId) → List Field → Bool
  | [], [] => true
  | (o, t) :: r, f :: s => Nat.beq o f.offset && (Nat.beq t f.type && fieldsEq r s)
  | _, _ => false
theorem fieldsEq_spec {a : List (Nat × TypeId)} {b : List Field} (h : fieldsEq a b = true) : a = b.map (fun f => (f.offset, f.type)) := by
  induction a generalizing b with
  | nil => cases b with
    | nil => rfl
    | cons _ _ => cases h
  | cons x r ih =>
    obtain ⟨o, t⟩ := x
    cases b with
    | nil => cases h
    | cons f s =>
      simp only [fieldsEq, Bool.and_eq_true] at h
      obtain ⟨h1, h2, h3⟩ := h
      rw [ih h3, beq_iff.1 h1, beq_iff.1 h2]; rfl
def isZeroV : KT → Value → Bool
  | .bool, .bool b => !b
  | .int k, .int k' n => ikEq k k' && decide (n = 0)
  | .str, .string s => isNilL s.data.toList
  | .slice _, .slice none 0 0 => true
  | .ptr, .pointer none => true
  | _, _ => false
theorem isZeroV_spec {k : KT} {v : Value} (h : isZeroV k v = true) : v = zeroV k := by
  unfold isZeroV at h
  split at h
  · rename_i b; cases b with
    | true => cases h
    | false => rfl
  · simp only [Bool.and_eq_true, decide_eq_true_eq] at h
    rw [ikEq_iff.1 h.1, h.2]; rfl
  · rename_i s
    have : s.data.toList = [] := by
      cases hs : s.data.toList with
      | nil => rfl
      | cons _ _ => rw [hs] at h; cases h
    show Value.string s = .string .empty
    congr 1
    cases s with
    | mk d => congr 1; exact Array.toList_inj.1 this
  · rfl
  · rfl
  · cases h
def zerosB : List KT → List Value → Bool
  | [], [] => true
  | k :: r, v :: s => isZeroV k v && zerosB r s
  | _, _ => false
theorem zerosB_spec {ks : List KT} {vs : List Value} (h : zerosB ks vs = true) : vs.length = ks.length ∧ ∀ (j : Nat) k, ks[j]? = some k → vs[j]? = some (zeroV k) := by
  induction ks generalizing vs with
  | nil => cases vs with
    | nil => exact ⟨rfl, fun j k h => by simp at h⟩
    | cons _ _ => cases h
  | cons k r ih =>
    cases vs with
    | nil => cases h
    | cons v s =>
      simp only [zerosB, Bool.and_eq_true] at h
      obtain ⟨h1, h2⟩ := ih h.2
      refine ⟨by simp [h1], fun j k' hj => ?_⟩
      cases j with
      | zero => simp at hj; subst hj; simp [isZeroV_spec h.1]
      | succ j => simpa using h2 j k' (by simpa using hj)

def underB (P : Program) (tt : TT) (t : TypeId) (ti : TI) : Bool :=
  match ti.kt, P.underlying t with
  | .bool, some .bool => ktsEq ti.cells [.bool]
  | .int k, some (.int k') => ikEq k k' && ktsEq ti.cells [.int k]
  | .str, some .string => ktsEq ti.cells [.str]
  | .ptr, some (.pointer _) => ktsEq ti.cells [.ptr]
  | .slice e, some (.slice e') => Nat.beq e e' && (ktsEq ti.cells [.slice e] && (match lk e tt with | some ei => Nat.ble 1 ei.cells.length | none => false))
  | .agg u, some (.struct fs) => Nat.beq u t && (fieldsEq ti.fields fs.toList && (fs.toList.all (fun f => match lk f.type tt with
    | some fi => ktsEq ((ti.cells.drop f.offset).take fi.cells.length) fi.cells && Nat.ble (f.offset + fi.cells.length) ti.cells.length
    | none => false) && tight tt ti.cells.length 0 ti.fields))
  | _, _ => false
def zeroB (ti : TI) (z : Value) : Bool :=
  match ti.kt with
  | .agg _ => match z with
    | .agg cs => zerosB ti.cells cs.toList
    | _ => false
  | k => isZeroV k z && zerosB ti.cells [z]
def tiB (P : Program) (tt : TT) (t : TypeId) (ti : TI) : Bool :=
  match P.info? t with
  | none => false
  | some i => Nat.beq (P.cellsOf t) ti.cells.length && (Nat.beq i.size ti.cells.length && (Nat.beq i.bytes ti.bytes && (underB P tt t ti && (ti.cells.all KT.single && (match i.zero with
    | some z => zeroB ti z
    | none => false)))))
def ttB (P : Program) (tt : TT) : TT → Bool
  | [] => true
  | (t, ti) :: r => tiB P tt t ti && ttB P tt r

theorem tiB_spec {P : Program} {tt : TT} {t : TypeId} {ti : TI} (h : tiB P tt t ti = true) : TIok P tt t ti ∧ (ti.kt.single = false → tight tt ti.cells.length 0 ti.fields = true) ∧ (∀ e, ti.kt = .slice e → ∃ ei, lk e tt = some ei ∧ 0 < ei.cells.length) := by
  unfold tiB at h
  cases hi : P.info? t with
  | none => rw [hi] at h; cases h
  | some i =>
    rw [hi] at h
    simp only [Bool.and_eq_true] at h
    obtain ⟨h1, h2, h3, h4, h5, h6⟩ := h
    have h1 := beq_iff.1 h1
    have h2 := beq_iff.1 h2
    have h3 := beq_iff.1 h3
    have hz : ∃ z, i.zero = some z ∧ zeroB ti z = true := by
      cases hz : i.zero with
      | none => rw [hz] at h6; cases h6
      | some z => rw [hz] at h6; exact ⟨z, rfl, h6⟩
    obtain ⟨z, hz, h6⟩ := hz
    have hzero : z.cells.size = ti.cells.length ∧ (ti.kt.single = false → ∃ cs, z = .agg cs) ∧ (ti.kt.single = true → z.cells = #[z]) ∧ ∀ (j : Nat) (k : KT), ti.cells[j]? = some k → z.cells[j]? = some (zeroV k) := by
      unfold zeroB at h6
      have hsing : ∀ k, ti.kt = k → k.single = true → isZeroV k z = true → zerosB ti.cells [z] = true → z.cells = #[z] ∧ ∀ (j : Nat) (k : KT), ti.cells[j]? = some k → z.cells[j]? = some (zeroV k) := by
        intro k hk hs q1 q2
        have hz2 := isZeroV_spec q1
        have hc : z.cells = #[z] := by rw [hz2]; cases k <;> first | rfl | (simp [KT.single] at hs)
        refine ⟨hc, fun j k' hj => ?_⟩
        rw [hc]
        have := (zerosB_spec q2).2 j k' hj
        simpa using this
      have hlen : zerosB ti.cells [z] = true → ti.cells.length = 1 := fun q => by have := (zerosB_spec q).1; simpa using this.symm
      cases hk : ti.kt with
      | agg u =>
        rw [hk] at h6
        cases z with
        | agg cs =>
          obtain ⟨q1, q2⟩ := zerosB_spec h6
          refine ⟨by simpa [Value.cells] using q1, fun _ => ⟨cs, rfl⟩, fun h => by simp [KT.single] at h, fun j k hj => ?_⟩
          have := q2 j k hj
          simpa [Value.cells] using this
        | _ => cases h6
      | _ =>
        rw [hk] at h6
        simp only [Bool.and_eq_true] at h6
        obtain ⟨q1, q2⟩ := hsing _ hk rfl h6.1 h6.2
        exact ⟨by rw [q1, hlen h6.2]; rfl, fun h => by simp [KT.single] at h, fun _ => q1, q2⟩
    unfold underB at h4
    refine ⟨⟨h1, ⟨i, hi, h2, h3⟩, ?_, fun k hk => List.all_eq_true.1 h5 k hk, ⟨i, z, hi, hz, hzero⟩⟩, ?_, ?_⟩
    · split at h4
      · rename_i e1 e2; rw [e1]; exact ⟨e2, ktsEq_iff.1 h4⟩
      · rename_i e1 e2; simp only [Bool.and_eq_true] at h4; rw [e1, ikEq_iff.1 h4.1]; exact ⟨e2, by rw [← ikEq_iff.1 h4.1]; exact ktsEq_iff.1 h4.2⟩
      · rename_i e1 e2; rw [e1]; exact ⟨e2, ktsEq_iff.1 h4⟩
      · rename_i e1 e2; rw [e1]; exact ⟨⟨_, e2⟩, ktsEq_iff.1 h4⟩
      · rename_i e e' e1 e2
        simp only [Bool.and_eq_true] at h4
        rw [e1]
        have := beq_iff.1 h4.1
        subst this
        refine ⟨e2, ktsEq_iff.1 h4.2.1, ?_⟩
        cases hl : lk e tt with
        | none => rw [hl] at h4; simp at h4
        | some _ => rfl
      · rename_i u fs e1 e2
        simp only [Bool.and_eq_true] at h4
        rw [e1]
        refine ⟨beq_iff.1 h4.1, fs, e2, fieldsEq_spec h4.2.1, fun f hf => ?_⟩
        have := List.all_eq_true.1 h4.2.2.1 f hf
        cases hl : lk f.type tt with
        | none => rw [hl] at this; cases this
        | some fi =>
          rw [hl] at this
          simp only [Bool.and_eq_true] at this
          exact ⟨fi, rfl, ktsEq_iff.1 this.1, Nat.le_of_ble_eq_true this.2⟩
      · cases h4
    · intro hs
      split at h4
      case h_6 => simp only [Bool.and_eq_true] at h4; exact h4.2.2.2
      case h_7 => cases h4
      all_goals (rename_i e1 e2; rw [e1] at hs; simp [KT.single] at hs)
    · intro e he
      rw [he] at h4
      split at h4
      case h_5 e1 e2 e3 e4 =>
        injection e3 with e3; subst e3
        simp only [Bool.and_eq_true] at h4
        cases hl : lk e tt with
        | none => rw [hl] at h4; simp at h4
        | some ei => rw [hl] at h4; exact ⟨ei, rfl, Nat.le_of_ble_eq_true h4.2.2⟩
      case h_7 => cases h4
      all_goals (rename_i e1 e2; cases e1)

theorem ttB_spec {P : Program} {tt : TT} : ∀ (l : TT), ttB P tt l = true → ∀ t ti, lk t l = some ti → tiB P tt t ti = true := by
  intro l
  induction l with
  | nil => intro _ t ti h; cases h
  | cons p r ih =>
    obtain ⟨u, x⟩ := p
    intro h t ti hl
    simp only [ttB, Bool.and_eq_true] at h
    simp only [lk] at hl
    cases hb : Nat.beq t u with
    | true => rw [hb] at hl; injection hl with hl; subst hl; rw [beq_iff.1 hb]; exact h.1
    | false => rw [hb] at hl; exact ih h.2 t ti hl
theorem tt_ok {P : Program} {tt : TT} (h : ttB P tt tt = true) : TTok P tt ∧ Tight tt ∧ Elems tt :=
  ⟨fun t ti hl => (tiB_spec (ttB_spec tt h t ti hl)).1, fun t ti hl => (tiB_spec (ttB_spec tt h t ti hl)).2.1, fun t ti e hl => (tiB_spec (ttB_spec tt h t ti hl)).2.2 e⟩

def fnB (E : Env) (f : Nat) (fn : Func) : Bool :=
  !(fn.name == "runtime.NumGoroutine") && ((match fn.body with | some c => okCode c | none => true) && (match lk f E.sigs with | some sg => Nat.ble sg.params.length fn.ntmps && (match fn.body with | some c => noDst (boxPs sg.params 0) c | none => true) | none => true))
theorem fnB_spec {P : Program} {E : Env} {f : Nat} {fn : Func} (hget : P.funcs[f]? = some fn) (h : fnB E f fn = true) : FnOK P E f fn := by
  simp only [fnB, Bool.and_eq_true, Bool.not_eq_true'] at h
  obtain ⟨h1, h2, h3⟩ := h
  refine ⟨hget, h1, fun c hc => by rw [hc] at h2; exact h2, fun sg hsg => ?_, fun sg hsg c hc => ?_⟩
  · rw [hsg] at h3
    simp only [Bool.and_eq_true] at h3
    exact Nat.le_of_ble_eq_true h3.1
  · rw [hsg] at h3
    simp only [Bool.and_eq_true, hc] at h3
    exact h3.2

end Go.Proofs.YtjofkhdnidjleabDoor.DS
