/- The rest of the operations that leave the world alone. -/
import Derived.Test.YtjofkhdnidjleabDoorDsG
set_option linter.unusedVariables false
set_option linter.unusedSimpArgs false
namespace Go.Proofs.YtjofkhdnidjleabDoor.DS
open Go.RowKit

theorem setSVs_get (xs : List SV) : ∀ (cs : List SV) (off k : Nat), off + xs.length ≤ cs.length → (setSVs cs off xs)[k]? = if off ≤ k ∧ k < off + xs.length then xs[k - off]? else cs[k]? := by
  induction xs with
  | nil => intro cs off k h; simp only [setSVs, List.length_nil]; rw [if_neg (by omega)]
  | cons x r ih =>
    intro cs off k h
    simp only [List.length_cons] at h
    simp only [setSVs]
    rw [ih (cs.set off x) (off + 1) k (by simp; omega)]
    simp only [List.length_cons, List.getElem?_set]
    by_cases h1 : k = off
    · subst h1
      rw [if_neg (by omega), if_pos rfl, if_pos (by omega), if_pos ⟨by omega, by omega⟩]; simp
    · by_cases h2 : off + 1 ≤ k ∧ k < off + 1 + r.length
      · rw [if_pos h2, if_pos ⟨by omega, by omega⟩]
        rw [show k - off = (k - (off + 1)) + 1 by omega, List.getElem?_cons_succ]
      · rw [if_neg h2, if_neg (by omega), if_neg (by omega)]
theorem setSVs_length (xs : List SV) : ∀ (cs : List SV) (off : Nat), (setSVs cs off xs).length = cs.length := by
  induction xs with
  | nil => intro cs off; rfl
  | cons x r ih => intro cs off; simp [setSVs, ih]

theorem expand_get (ks : List KT) (d : D) : ∀ (i j : Nat), (expand ks d i)[j]? = (ks[j]?).map fun k => .val k (canon k (d.cell (i + j))) := by
  induction ks with
  | nil => intro i j; simp [expand]
  | cons k r ih =>
    intro i j
    cases j with
    | zero => simp [expand]
    | succ j => simp [expand, ih, Nat.add_assoc, Nat.add_comm 1 j]
theorem expand_length (ks : List KT) (d : D) : ∀ i, (expand ks d i).length = ks.length := by
  induction ks with
  | nil => intro i; rfl
  | cons k r ih => intro i; simp [expand, ih]
theorem expand_rel {P : Program} {tt : TT} (hT : TTok P tt) {ι : Nat → Value} {M : Mem} {t : TypeId} {ti : TI} (ht : lk t tt = some ti) {v : Value} {d : D} (h : Rep tt M ti.kt v d) :
    ∀ (i : Nat) (s : SV) (c : Value), (expand ti.cells d 0)[i]? = some s → v.cells[i]? = some c → SVRel0 tt ι M s c := by
  obtain ⟨h1, h2, h3⟩ := h.kt_cells hT ht
  intro i s c hs hc
  rw [expand_get, Option.map_eq_some_iff] at hs
  obtain ⟨k, hk, rfl⟩ := hs
  obtain ⟨hlt, hk'⟩ := List.getElem?_eq_some_iff.1 hk
  obtain ⟨hlt2, hc'⟩ := Array.getElem?_eq_some_iff.1 hc
  have hr := h3 i hlt hlt2 (by omega)
  rw [hk', hc'] at hr
  show Rep tt M k c (canon k (d.cell (0 + i)))
  have e : d.cell (0 + i) = d.cells[i]'(by omega) := by simp [D.cell, List.getD_eq_getElem?_getD, List.getElem?_eq_getElem (show i < d.cells.length by omega)]
  rw [e, hr.canon]; exact hr
theorem toCells_rel {P : Program} {tt : TT} (hT : TTok P tt) {ι : Nat → Value} {M : Mem} {t : TypeId} {ti : TI} (ht : lk t tt = some ti) {cs : Array Value} {c : BC} (h : BCRel tt ι M ti cs c) : BCRel tt ι M ti cs (.cells (c.toCells ti)) := by
  cases c with
  | cells l => exact h
  | whole d =>
    obtain ⟨_, hr⟩ := h
    obtain ⟨h1, _, _⟩ := hr.kt_cells hT ht
    exact ⟨h1, expand_length _ _ _, fun i s c hs hc => expand_rel hT ht hr i s c hs hc⟩

section
variable {P : Program} {E : Env} (hT : TTok P E.tt) {st : St} {ops : List Oper} {L : List (Nat × Bool)} {a : Act} {w : World} {ι : Nat → Value} {M : Mem}
  (hev : ∀ x s, ev st ops L x = some s → SVRel E.tt ι M s (a.eval x))

theorem setCells_get (xs : List D) : ∀ (cs : List D) (off k : Nat), off + xs.length ≤ cs.length → (setCells cs off xs)[k]? = if off ≤ k ∧ k < off + xs.length then xs[k - off]? else cs[k]? := by
  induction xs with
  | nil => intro cs off k h; simp only [setCells, List.length_nil]; rw [if_neg (by omega)]
  | cons x r ih =>
    intro cs off k h
    simp only [List.length_cons] at h
    simp only [setCells]
    rw [ih (cs.set off x) (off + 1) k (by simp; omega)]
    simp only [List.length_cons, List.getElem?_set]
    by_cases h1 : k = off
    · subst h1
      rw [if_neg (by omega), if_pos rfl, if_pos (by omega), if_pos ⟨by omega, by omega⟩]; simp
    · by_cases h2 : off + 1 ≤ k ∧ k < off + 1 + r.length
      · rw [if_pos h2, if_pos ⟨by omega, by omega⟩]
        rw [show k - off = (k - (off + 1)) + 1 by omega, List.getElem?_cons_succ]
      · rw [if_neg h2, if_neg (by omega), if_neg (by omega)]
theorem setCells_length (xs : List D) : ∀ (cs : List D) (off : Nat), (setCells cs off xs).length = cs.length := by
  induction xs with
  | nil => intro cs off; rfl
  | cons x r ih => intro cs off; simp [setCells, ih]

theorem foldl_set_get (xs : List Value) : ∀ (cells : Array Value) (off b k : Nat), ((xs.zipIdx b).foldl (fun cs (c, j) => cs.setIfInBounds (off + j) c) cells)[k]? = if off + b ≤ k ∧ k < off + b + xs.length ∧ k < cells.size then xs[k - (off + b)]? else cells[k]? := by
  induction xs with
  | nil => intro cells off b k; simp only [List.zipIdx_nil, List.foldl_nil, List.length_nil]; rw [if_neg (by omega)]
  | cons x r ih =>
    intro cells off b k
    simp only [List.zipIdx_cons, List.foldl_cons, List.length_cons]
    rw [ih]
    simp only [Array.size_setIfInBounds]
    by_cases h1 : k = off + b
    · subst h1
      rw [if_neg (by omega)]
      by_cases h2 : off + b < cells.size
      · rw [if_pos ⟨by omega, by omega, h2⟩]; simp [h2]
      · rw [if_neg (by omega)]; simp [h2]
    · by_cases h2 : off + (b + 1) ≤ k ∧ k < off + (b + 1) + r.length ∧ k < cells.size
      · rw [if_pos h2, if_pos ⟨by omega, by omega, h2.2.2⟩]
        rw [show k - (off + b) = (k - (off + (b + 1))) + 1 by omega, List.getElem?_cons_succ]
      · rw [if_neg h2, if_neg (by omega)]
        simp [Array.getElem?_setIfInBounds, show ¬ off + b = k by omega]
theorem foldl_set_size (xs : List Value) : ∀ (cells : Array Value) (off b : Nat), ((xs.zipIdx b).foldl (fun cs (c, j) => cs.setIfInBounds (off + j) c) cells).size = cells.size := by
  induction xs with
  | nil => intro cells off b; rfl
  | cons x r ih => intro cells off b; simp [List.zipIdx_cons, ih]

theorem expandD_get (ks : List KT) (d : D) : ∀ (i j : Nat), (expandD ks d i)[j]? = (ks[j]?).map fun k => canon k (d.cell (i + j)) := by
  induction ks with
  | nil => intro i j; simp [expandD]
  | cons k r ih =>
    intro i j
    cases j with
    | zero => simp [expandD]
    | succ j => simp [expandD, ih, Nat.add_assoc, Nat.add_comm 1 j]
theorem expandD_eq {P : Program} {tt : TT} (hT : TTok P tt) {t : TypeId} {ti : TI} (ht : lk t tt = some ti) {v : Value} {d : D} (h : Rep tt M ti.kt v d) : expandD ti.cells d 0 = d.cells := by
  obtain ⟨h1, h2, h3⟩ := h.kt_cells hT ht
  apply List.ext_getElem?
  intro j
  rw [expandD_get]
  by_cases hj : j < ti.cells.length
  · rw [List.getElem?_eq_getElem hj, List.getElem?_eq_getElem (by omega)]
    simp only [Option.map_some, Nat.zero_add]
    have := (h3 j hj (by omega) (by omega)).canon
    rw [← this]
    congr 2
    simp [D.cell, List.getD_eq_getElem?_getD, List.getElem?_eq_getElem (show j < d.cells.length by omega), this]
  · rw [List.getElem?_eq_none (by omega), List.getElem?_eq_none (by omega)]; rfl

/-- Cells that hold data, cell by cell. -/
def CR (tt : TT) (M : Mem) (ks : List KT) (cells : Array Value) (cs : List D) : Prop :=
  cells.size = ks.length ∧ cs.length = ks.length ∧ ∀ (i : Nat) (k : KT) (v : Value) (d : D), ks[i]? = some k → cells[i]? = some v → cs[i]? = some d → Rep tt M k v d

theorem clo_out {draw : Bool} {t : Nat} {xs : List Operand} {out : Out} (h : cloO E draw st ops L t xs = some out) :
    draw = false ∧ ∃ f id sg ds, ev st ops L (.tmp t) = some (.clo f id) ∧ lk f E.sigs = some sg ∧ flatR sg.results = true ∧ argsC E st ops L id sg.params xs = some ds ∧ out = .call f ds sg.results := by
  cases draw with
  | true => cases h
  | false =>
    refine ⟨rfl, ?_⟩
    simp only [cloO, cond_false] at h
    obtain ⟨s, hs, h⟩ := opt_some.1 h
    cases s with
    | clo f id =>
      obtain ⟨sg, hsg, h⟩ := opt_some.1 h
      obtain ⟨hf, h⟩ := cond_some.1 h
      obtain ⟨ds, hds, h⟩ := opt_some.1 h
      injection h with h
      exact ⟨f, id, sg, ds, hs, hsg, hf, hds, h.symm⟩
    | _ => cases h
theorem mkf_out {draw : Bool} {f : Nat} {fs cs : List Operand} {out : Out} (h : makeFuncO draw st ops L f fs cs = some out) :
    draw = false ∧ ∃ x id u k, fs = [] ∧ cs = [x] ∧ ev st ops L x = some (.bptr id u 0 k) ∧ out = .sv true (.clo f id) := by
  cases draw with
  | true => cases h
  | false =>
    refine ⟨rfl, ?_⟩
    simp only [makeFuncO, cond_false] at h
    split at h
    · rename_i x
      obtain ⟨s, hs, h⟩ := opt_some.1 h
      cases s with
      | bptr id u off k =>
        obtain ⟨h0, h⟩ := cond_some.1 h
        have h0 := beq_iff.1 h0
        subst h0
        injection h with h
        exact ⟨x, id, u, k, rfl, rfl, hs, h.symm⟩
      | _ => cases h
    · cases h
theorem callF_out {draw : Bool} {sg : Sig} {f : Nat} {xs : List Operand} {out : Out} (h : cond (allValP sg.params)
      (opt (argsO st ops L (flatR sg.results) sg.params xs) fun ds => some (Out.call f ds sg.results))
      (cond draw none (opt (hargsO E st ops L 0 sg.params xs) fun x => some (Out.hcall f x.1 sg (sndL x.2.1) x.2.2))) = some out) :
    (∃ ds, argsO st ops L (flatR sg.results) sg.params xs = some ds ∧ out = .call f ds sg.results) ∨ (draw = false ∧ ∃ x, hargsO E st ops L 0 sg.params xs = some x ∧ out = .hcall f x.1 sg (sndL x.2.1) x.2.2) := by
  generalize allValP sg.params = q at h
  cases q with
  | true =>
    obtain ⟨ds, h1, h2⟩ := opt_some.1 h
    injection h2 with h2
    exact .inl ⟨ds, h1, h2.symm⟩
  | false =>
    cases draw with
    | true => cases h
    | false =>
      obtain ⟨x, h1, h2⟩ := opt_some.1 h
      injection h2 with h2
      exact .inr ⟨rfl, x, h1, h2.symm⟩
theorem buildO_sv {t : TypeId} {ps : List (Nat × Operand)} {out : Out} (h : buildO E st ops L t ps = some out) : ∃ v, out = .sv true v := by
  unfold buildO at h
  replace h := opt_some.1 h
  obtain ⟨ti, _, h⟩ := h
  split at h
  · generalize anySlice ti.cells = q at h
    cases q with
    | true =>
      replace h := opt_some.1 h
      obtain ⟨l, _, h⟩ := h
      generalize allVal l = q at h
      cases q with
      | true =>
        replace h := opt_some.1 h
        obtain ⟨d, _, h⟩ := h
        injection h with h; exact ⟨_, h.symm⟩
      | false => injection h with h; exact ⟨_, h.symm⟩
    | false =>
      replace h := opt_some.1 h
      obtain ⟨cs, _, h⟩ := h
      injection h with h; exact ⟨_, h.symm⟩
  · cases h

include hT in
theorem zero_rep {t : TypeId} {ti : TI} (ht : lk t E.tt = some ti) (hnp : ∀ k ∈ ti.cells, k ≠ .ptr) : ∃ i, ∃ z : Value, P.info? t = some i ∧ i.zero = some z ∧ CR E.tt M ti.cells z.cells (ti.cells.map zeroD) := by
  have hi := hT t ti ht
  obtain ⟨i, z, h1, h2, h3, _, _, h4⟩ := hi.zero
  refine ⟨i, z, h1, h2, h3, by simp, ?_⟩
  intro j k v d hk hv hd
  rw [h4 j k hk] at hv
  injection hv with hv; subst hv
  simp only [List.getElem?_map, hk, Option.map_some, Option.some.injEq] at hd
  subst hd
  have hs := hi.single k (List.mem_of_getElem? hk)
  cases k with
  | bool => exact .bool false
  | int q => exact .int q 0 (by cases q <;> decide)
  | str => exact .str ByteArray.empty (by decide)
  | slice e => exact .nil _ _ _ (by omega)
  | agg u => simp [KT.single] at hs
  | ptr => exact absurd rfl (hnp _ (List.mem_of_getElem? hk))

/-- Cells, and what they are known as. -/
def CS (tt : TT) (ι : Nat → Value) (M : Mem) (n : Nat) (cells : Array Value) (l : List SV) : Prop :=
  cells.size = n ∧ l.length = n ∧ ∀ (i : Nat) (s : SV) (v : Value), l[i]? = some s → cells[i]? = some v → SVRel0 tt ι M s v

include hT in
theorem zero_cells {t : TypeId} {ti : TI} (ht : lk t E.tt = some ti) (f : KT → SV) (hf : ∀ k, f k = zeroSB k ∨ ∃ id, f k = zeroSV id k) : ∃ i, ∃ z : Value, P.info? t = some i ∧ i.zero = some z ∧ ∀ ι : Nat → Value, CS E.tt ι M ti.cells.length z.cells (ti.cells.map f) := by
  have hi := hT t ti ht
  obtain ⟨i, z, h1, h2, h3, _, _, h4⟩ := hi.zero
  refine ⟨i, z, h1, h2, fun ι => ⟨h3, by simp, ?_⟩⟩
  intro j s v hs hv
  rw [List.getElem?_map, Option.map_eq_some_iff] at hs
  obtain ⟨k, hk, rfl⟩ := hs
  rw [h4 j k hk] at hv
  injection hv with hv; subst hv
  have hsg := hi.single k (List.mem_of_getElem? hk)
  have hB : SVRel0 E.tt ι M (zeroSB k) (zeroV k) := by
    cases k with
    | bool => exact Rep.bool false
    | int q => exact Rep.int q 0 (by cases q <;> decide)
    | str => exact Rep.str ByteArray.empty (by decide)
    | slice e => exact rfl
    | agg u => simp [KT.single] at hsg
    | ptr => trivial
  have hV : ∀ id, SVRel0 E.tt ι M (zeroSV id k) (zeroV k) := by
    intro id
    cases k with
    | ptr => exact .inl rfl
    | _ => exact hB
  rcases hf k with h | ⟨id, h⟩ <;> rw [h]
  · exact hB
  · exact hV id

theorem CS.part {tt : TT} {ti fi : TI} {off : Nat} {n : Nat} {cells : Array Value} {l ss : List SV} {vs : Array Value} (h : CS tt ι M n cells l) (hl : ss.length = vs.size) (ho : off + vs.size ≤ n)
    (hr : ∀ (i : Nat) (s : SV) (c : Value), ss[i]? = some s → vs[i]? = some c → SVRel0 tt ι M s c) : CS tt ι M n (vs.zipIdx.foldl (fun cs (c, j) => cs.setIfInBounds (off + j) c) cells) (setSVs l off ss) := by
  obtain ⟨c1, c2, c3⟩ := h
  rw [← Array.foldl_toList, Array.toList_zipIdx]
  refine ⟨by rw [foldl_set_size]; exact c1, by rw [setSVs_length]; exact c2, ?_⟩
  intro j s v hs hv
  rw [foldl_set_get, Nat.add_zero] at hv
  rw [setSVs_get _ _ _ _ (by omega)] at hs
  by_cases hj : off ≤ j ∧ j < off + ss.length
  · rw [if_pos hj] at hs
    rw [if_pos ⟨by omega, by rw [Array.length_toList]; omega, by omega⟩] at hv
    rw [Array.getElem?_toList] at hv
    exact hr _ s v hs hv
  · rw [if_neg hj] at hs
    rw [if_neg (by rw [Array.length_toList]; omega)] at hv
    exact c3 j s v hs hv

include hT in
theorem partS_rel {t : TypeId} {fi : TI} (ht : lk t E.tt = some fi) {s : SV} {l : List SV} {v : Value} (h : partS fi s = some l) (hv : SVRel E.tt ι M s v) :
    l.length = v.cells.size ∧ v.cells.size = fi.cells.length ∧ ∀ (i : Nat) (s : SV) (c : Value), l[i]? = some s → v.cells[i]? = some c → SVRel0 E.tt ι M s c := by
  have hi := hT t fi ht
  have one : ∀ s0, SVRel0 E.tt ι M s0 v → fi.kt.single = true → v.cells = #[v] → ([s0] : List SV).length = v.cells.size ∧ v.cells.size = fi.cells.length ∧ ∀ (i : Nat) (s : SV) (c : Value), ([s0] : List SV)[i]? = some s → v.cells[i]? = some c → SVRel0 E.tt ι M s c := by
    intro s0 h0 hsg hc
    rw [hc, hi.cells_of_single hsg]
    refine ⟨rfl, rfl, fun i s c hs hcc => ?_⟩
    cases i with
    | zero => simp at hs hcc; subst hs hcc; exact h0
    | succ i => simp at hs
  have dat : ∀ k d, s = .val k d → KT.eq fi.kt k = true → fi.kt.single = true → ([SV.val k d] : List SV).length = v.cells.size ∧ v.cells.size = fi.cells.length ∧ ∀ (i : Nat) (s : SV) (c : Value), ([SV.val k d] : List SV)[i]? = some s → v.cells[i]? = some c → SVRel0 E.tt ι M s c := by
    intro k d hs hk hsg
    subst hs
    have hk := KT.eq_iff.1 hk
    have hr : Rep E.tt M k v d := hv
    exact one _ hr hsg (hr.cells_single (by rw [← hk]; exact hsg)).1
  unfold partS at h
  split at h
  · rename_i u hk
    split at h
    · rename_i u' ks l'
      replace h := cond_some.1 h
      obtain ⟨he, h⟩ := h
      have he := beq_iff.1 he
      subst he
      injection h with h; subst h
      obtain ⟨ti, vs, h1, h2, h3, rfl, h5, h6, h7⟩ := hv
      have hut := hi.agg_self hk
      subst hut
      rw [ht] at h1; injection h1 with h1; subst h1
      refine ⟨by simp [Value.cells, h5], by simp [Value.cells, h5, h6, h3], fun i s c hs hc => h7 i s c hs (by simpa [Value.cells] using hc)⟩
    · rename_i k d
      replace h := cond_some.1 h
      obtain ⟨he, h⟩ := h
      have he := KT.eq_iff.1 he
      injection h with h; subst h
      have hr : Rep E.tt M k v d := hv
      rw [← he] at hr
      obtain ⟨q1, _, _⟩ := hr.kt_cells hT ht
      exact ⟨by rw [expand_length, q1], q1, fun i s c hs hc => expand_rel hT ht hr i s c hs hc⟩
    · cases h
  · rename_i e hk
    have hsg : fi.kt.single = true := by rw [hk]; rfl
    split at h
    · injection h with h; subst h
      have : v = .slice none 0 0 := hv
      subst this
      exact one _ rfl hsg rfl
    · rename_i i
      injection h with h; subst h
      obtain ⟨h1, a, n, c, h2⟩ : v = ι i ∧ ∃ a n c, ι i = .slice a n c := hv
      refine one _ ⟨h1, a, n, c, h2⟩ hsg ?_
      rw [h1, h2]; rfl
    · rename_i k d
      replace h := cond_some.1 h
      obtain ⟨he, h⟩ := h
      injection h with h; subst h
      exact dat k d rfl he hsg
    · cases h
  · rename_i hna hns
    split at h
    · rename_i k d
      replace h := cond_some.1 h
      obtain ⟨he, h⟩ := h
      injection h with h; subst h
      refine dat k d rfl he ?_
      cases hkt : fi.kt with
      | agg u => exact absurd hkt (hna u)
      | _ => rfl
    · cases h

include hT hev in
theorem fillS_sound {t : TypeId} {ti : TI} (ht : lk t E.tt = some ti) (fs : Array Field) (hfs : ti.fields = fs.toList.map fun f => (f.offset, f.type))
    (hall : ∀ f ∈ fs.toList, ∃ fi, lk f.type E.tt = some fi ∧ (ti.cells.drop f.offset).take fi.cells.length = fi.cells ∧ f.offset + fi.cells.length ≤ ti.cells.length)
    (places : Nat → Option (Nat × Nat)) (hpl : ∀ (i : Nat) (f : Field) fi, fs[i]? = some f → lk f.type E.tt = some fi → places i = some (f.offset, fi.cells.length)) (parts : List (Nat × Operand)) :
    ∀ (cells : Array Value) (cs cs' : List SV), CS E.tt ι M ti.cells.length cells cs → fillS E st ops L ti.fields parts cs = some cs' →
    ∃ cells', Instr.fill places cells (parts.map fun (i, x) => (i, a.eval x)) = some cells' ∧ CS E.tt ι M ti.cells.length cells' cs' := by
  induction parts with
  | nil => intro cells cs cs' hcr h; injection h with h; subst h; exact ⟨cells, rfl, hcr⟩
  | cons p r ih =>
    obtain ⟨i, x⟩ := p
    intro cells cs cs' hcr h
    simp only [fillS] at h
    replace h := opt_some.1 h
    obtain ⟨ft, hft, h⟩ := h
    replace h := opt_some.1 h
    obtain ⟨fi, hfi, h⟩ := h
    replace h := opt_some.1 h
    obtain ⟨s, hs, h⟩ := h
    replace h := opt_some.1 h
    obtain ⟨l, hl, h⟩ := h
    rw [hfs, List.getElem?_map, Option.map_eq_some_iff] at hft
    obtain ⟨f, hf, rfl⟩ := hft
    rw [Array.getElem?_toList] at hf
    obtain ⟨fi', hfi', hcc, hll⟩ := hall f (by have := List.mem_of_getElem? (l := fs.toList) (i := i) (by rw [Array.getElem?_toList]; exact hf); exact this)
    simp only at hfi
    rw [hfi] at hfi'; cases hfi'
    obtain ⟨k1, k2, k3⟩ := partS_rel hT hfi hl (hev x s hs)
    have hcz := hcr.1
    simp only at h
    simp only [List.map_cons, Instr.fill, hpl i f fi hf hfi]
    rw [if_neg (by simp; omega)]
    exact ih _ _ cs' (hcr.part (ti := ti) (fi := fi) k1 (by omega) k3) h

include hT hev in
theorem fill_sound {t : TypeId} {ti : TI} (ht : lk t E.tt = some ti) (fs : Array Field) (hfs : ti.fields = fs.toList.map fun f => (f.offset, f.type))
    (hall : ∀ f ∈ fs.toList, ∃ fi, lk f.type E.tt = some fi ∧ (ti.cells.drop f.offset).take fi.cells.length = fi.cells ∧ f.offset + fi.cells.length ≤ ti.cells.length)
    (places : Nat → Option (Nat × Nat)) (hpl : ∀ (i : Nat) (f : Field) fi, fs[i]? = some f → lk f.type E.tt = some fi → places i = some (f.offset, fi.cells.length)) (parts : List (Nat × Operand)) :
    ∀ (cells : Array Value) (cs cs' : List D), CR E.tt M ti.cells cells cs → fillD E st ops L ti.fields parts cs = some cs' →
    ∃ cells', Instr.fill places cells (parts.map fun (i, x) => (i, a.eval x)) = some cells' ∧ CR E.tt M ti.cells cells' cs' := by
  induction parts with
  | nil => intro cells cs cs' hcr h; injection h with h; subst h; exact ⟨cells, rfl, hcr⟩
  | cons p r ih =>
    obtain ⟨i, x⟩ := p
    intro cells cs cs' hcr h
    simp only [fillD] at h
    replace h := opt_some.1 h
    obtain ⟨ft, hft, h⟩ := h
    replace h := opt_some.1 h
    obtain ⟨fi, hfi, h⟩ := h
    replace h := opt_some.1 h
    obtain ⟨s, hs, h⟩ := h
    replace h := opt_some.1 h
    obtain ⟨d, hd, h⟩ := h
    have hrep := svD_rel hd (hev x s hs)
    rw [hfs, List.getElem?_map, Option.map_eq_some_iff] at hft
    obtain ⟨f, hf, rfl⟩ := hft
    rw [Array.getElem?_toList] at hf
    obtain ⟨fi', hfi', hcc, hll⟩ := hall f (by have := List.mem_of_getElem? (l := fs.toList) (i := i) (by rw [Array.getElem?_toList]; exact hf); exact this)
    simp only at hfi
    rw [hfi] at hfi'; cases hfi'
    obtain ⟨k1, k2, k3⟩ := hrep.kt_cells hT hfi
    obtain ⟨c1, c2, c3⟩ := hcr
    have hnew : setField fi.kt fi.cells cs f.offset d = setCells cs f.offset d.cells := by
      cases hk : fi.kt with
      | agg u => simp only [setField, expandD_eq hT hfi hrep]
      | _ =>
        have hc1 := (hrep.cells_single (by rw [hk]; rfl)).2.1
        rw [hc1]; rfl
    simp only at h
    rw [hnew] at h
    simp only [List.map_cons, Instr.fill, hpl i f fi hf hfi]
    rw [if_neg (by simp; omega)]
    refine ih _ _ cs' ?_ h
    rw [← Array.foldl_toList, Array.toList_zipIdx]
    refine ⟨by rw [foldl_set_size]; exact c1, by rw [setCells_length]; exact c2, ?_⟩
    intro j k v d' hk hv hd'
    rw [foldl_set_get, Nat.add_zero] at hv
    rw [setCells_get _ _ _ _ (by omega)] at hd'
    by_cases hj : f.offset ≤ j ∧ j < f.offset + d.cells.length
    · rw [if_pos hj] at hd'
      rw [if_pos ⟨by omega, by rw [Array.length_toList]; omega, by omega⟩] at hv
      have h4 := congrArg (fun l => l[j - f.offset]?) hcc
      simp only [List.getElem?_take, List.getElem?_drop] at h4
      rw [if_pos (by omega), show f.offset + (j - f.offset) = j by omega, hk] at h4
      rw [Array.getElem?_toList] at hv
      rw [Array.getElem?_eq_getElem (by omega)] at hv
      rw [List.getElem?_eq_getElem (by omega)] at hd'
      rw [List.getElem?_eq_getElem (by omega)] at h4
      injection hv with hv; injection hd' with hd'; injection h4 with h4
      rw [← hv, ← hd', h4]
      exact k3 (j - f.offset) (by omega) (by omega) (by omega)
    · rw [if_neg hj] at hd'
      rw [if_neg (by rw [Array.length_toList]; omega)] at hv
      exact c3 j k v d' hk hv hd'

include hT hev in
theorem build_sound {o : Oper} {t : TypeId} {ps : Array (Nat × Operand)} (ho : o.op = .build t ps) {c : Bool} {v : SV} (h : buildO E st ops L t ps.toList = some (.sv c v)) : Gives P E.tt ι M a w o v := by
  unfold buildO at h
  replace h := opt_some.1 h
  obtain ⟨ti, ht, h⟩ := h
  have hi := hT t ti ht
  have hu := hi.under
  split at h
  · rename_i u hk
    rw [hk] at hu
    obtain ⟨rfl, fs, hun, hfs, hall⟩ := hu
    have hplaces : ∃ pl : Array (Nat × Nat), (fs.mapM fun f => (do pure (f.offset, ← sizeOf f.type) : Sem (Nat × Nat))).run P w = .ok pl w ∧ ∀ (j : Nat) (f : Field) fi, fs[j]? = some f → lk f.type E.tt = some fi → pl[j]? = some (f.offset, fi.cells.length) := by
      have key : ∀ (l : List Field), (∀ f ∈ l, ∃ fi, lk f.type E.tt = some fi) → ∃ pl : List (Nat × Nat), (l.mapM fun f => (do pure (f.offset, ← sizeOf f.type) : Sem (Nat × Nat))).run P w = .ok pl w ∧ ∀ (j : Nat) (f : Field) fi, l[j]? = some f → lk f.type E.tt = some fi → pl[j]? = some (f.offset, fi.cells.length) := by
        intro l
        induction l with
        | nil => intro _; exact ⟨[], by simp, fun j f fi h => by simp at h⟩
        | cons f r ih =>
          intro hall
          obtain ⟨pl, h1, h2⟩ := ih (fun f hf => hall f (List.mem_cons_of_mem _ hf))
          obtain ⟨fi, hfi⟩ := hall f List.mem_cons_self
          obtain ⟨fI, hfI, hsz, _⟩ := (hT _ _ hfi).info
          refine ⟨(f.offset, fi.cells.length) :: pl, ?_, ?_⟩
          · rw [List.mapM_cons]
            simp only [Sem.run_bind, run_size hfI, Result.andThen_ok, Sem.run_pure, h1, hsz]
          · intro j g gi hj hg
            cases j with
            | zero => simp at hj; subst hj; rw [hfi] at hg; cases hg; rfl
            | succ j => simpa using h2 j g gi (by simpa using hj) hg
      obtain ⟨pl, h1, h2⟩ := key fs.toList (fun f hf => let ⟨fi, h, _⟩ := hall f hf; ⟨fi, h⟩)
      refine ⟨pl.toArray, ?_, fun j f fi hj hfi => by simpa using h2 j f fi (by simpa using hj) hfi⟩
      rw [Array.mapM_eq_mapM_toList]
      simp only [Sem.run_map, h1, Result.andThen_ok]
    obtain ⟨pl, hpl, hpl2⟩ := hplaces
    cases hany : anySlice ti.cells with
    | true =>
      rw [hany] at h
      replace h := opt_some.1 h
      obtain ⟨l, hl, h⟩ := h
      obtain ⟨i, z, hinfo, hz, hcr⟩ := zero_cells (M := M) hT ht zeroSB (fun k => .inl rfl)
      obtain ⟨cells', hfill, hcr'⟩ := fillS_sound hT hev ht fs hfs hall (fun j => pl[j]?) hpl2 ps.toList _ _ _ (hcr ι) hl
      have hsag : SVRel E.tt ι M (.sag u ti.cells l) (.agg cells') := by
        obtain ⟨q1, q2, q3⟩ := hcr'
        refine ⟨ti, cells'.toList, ht, hk, rfl, by simp, by rw [Array.length_toList]; omega, q2, fun i s x hs hx => q3 i s x hs (by simpa using hx)⟩
      have hex : (execOp a.eval o).run P w = .ok (.value (.agg cells')) w := by
        refine execOp_value (s := Instr.build u (ps.map fun (i, x) => (i, a.eval x))) (by simp [execOp, ho]) ?_
        have hz2 : (zeroValue u).run P w = .ok z w := by simp [zeroValue, run_info hinfo, hz]
        have e : (ps.map fun (i, x) => (i, a.eval x)).toList = ps.toList.map fun (i, x) => (i, a.eval x) := by simp
        simp only [Instr.build, Sem.run_bind, hz2, Result.andThen_ok, run_underlying hun, hpl, e, hfill, Sem.run_pure]
      cases hav : allVal l with
      | true =>
        rw [hav] at h
        replace h := opt_some.1 h
        obtain ⟨d, hd, h⟩ := h
        injection h with h; injection h with h1 h2; subst h2
        exact ⟨_, hex, svD_rel hd hsag⟩
      | false =>
        rw [hav] at h
        injection h with h; injection h with h1 h2; subst h2
        exact ⟨_, hex, hsag⟩
    | false =>
    rw [hany] at h
    replace h := opt_some.1 h
    obtain ⟨cs, hcs, h⟩ := h
    injection h with h; injection h with h1 h2; subst h2
    have hnp : ∀ k ∈ ti.cells, k ≠ .ptr := by
      have key : ∀ l : List KT, anySlice l = false → ∀ k ∈ l, k ≠ .ptr := by
        intro l
        induction l with
        | nil => intro _ k h; cases h
        | cons q r ih =>
          intro h k hk
          cases q with
          | slice e => cases h
          | ptr => cases h
          | _ =>
            rcases List.mem_cons.1 hk with rfl | hk
            · intro e; cases e
            · exact ih h k hk
      exact key _ hany
    obtain ⟨i, z, hinfo, hz, hcr⟩ := zero_rep (M := M) hT ht hnp
    obtain ⟨cells', hfill, hcr'⟩ := fill_sound hT hev ht fs hfs hall (fun j => pl[j]?) hpl2 ps.toList _ _ _ hcr hcs
    refine ⟨.agg cells', execOp_value (s := Instr.build u (ps.map fun (i, x) => (i, a.eval x))) (by simp [execOp, ho]) ?_, ?_⟩
    · have hz2 : (zeroValue u).run P w = .ok z w := by simp [zeroValue, run_info hinfo, hz]
      have e : (ps.map fun (i, x) => (i, a.eval x)).toList = ps.toList.map fun (i, x) => (i, a.eval x) := by simp
      simp only [Instr.build, Sem.run_bind, hz2, Result.andThen_ok, run_underlying hun, hpl, e, hfill, Sem.run_pure]
    · obtain ⟨q1, q2, q3⟩ := hcr'
      show Rep E.tt M ti.kt (.agg cells') (.agg cs)
      rw [hk]
      have := Rep.agg u ti cells'.toList cs ht hk (by simpa using q1) q2 (M := M) (fun i h1 h2 h3 => q3 i _ _ _ (List.getElem?_eq_getElem h1) (by rw [← Array.getElem?_toList]; exact List.getElem?_eq_getElem h2) (List.getElem?_eq_getElem h3))
      simpa using this
  · cases h

end
end Go.Proofs.YtjofkhdnidjleabDoor.DS
