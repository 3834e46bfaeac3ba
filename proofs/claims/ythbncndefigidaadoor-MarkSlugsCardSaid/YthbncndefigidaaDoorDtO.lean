/- Functions of the library, by contracts: those that lay new memory, those that are never reached. -/
import Derived.Test.YthbncndefigidaaDoorDtN
set_option linter.unusedVariables false
set_option linter.unusedSimpArgs false
namespace Go.Proofs.YthbncndefigidaaDoor.DS

section
variable {P : Program} {E : Env}
/-- The memory behind a call that only lays new blocks. -/
def growMem (M : Mem) (w w' : World) : Mem := fun ad => if ad.block < w.heap.size then M ad else w'.cell? ad
theorem cell_lt {w : World} {ad : Addr} {v : Value} (h : w.cell? ad = some v) : ad.block < w.heap.size := by
  refine Classical.byContradiction fun hn => ?_
  have : w.heap[ad.block]? = none := Array.getElem?_eq_none (by omega)
  simp [World.cell?, this] at h
theorem HRel.grow {tt : TT} {X : Nat → Prop} {w w' : World} {M : Mem} (hM : ∀ ad v, M ad = some v → w.cell? ad = some v) (hB : Go.RowKit.Below w.heap.size w w') (ι : Nat → Value) : HRel tt X w M ι (growMem M w w') (fun _ => none) w' := by
  refine ⟨fun id o h => (by cases h), fun id id2 o o2 b h => (by cases h), fun id o b h => (by cases h), ?_, ?_, ?_, hB.os, hB.tape, hB.output, hB.size, fun b hb _ => hB.block b hb⟩
  · intro ad v h
    unfold growMem at h
    split at h
    · rename_i hlt
      rw [hB.cell hlt]; exact hM ad v h
    · exact h
  · intro ad v h
    unfold growMem
    rw [if_pos (cell_lt (hM ad v h))]; exact h
  · intro ad hlt _
    unfold growMem
    rw [if_pos hlt]
def RepAll (tt : TT) (M : Mem) : List KT → List Value → List D → Prop
  | [], [], [] => True
  | k :: ks, v :: vs, d :: ds => Rep tt M k v d ∧ RepAll tt M ks vs ds
  | _, _, _ => False
def valsFrom : List KT → Nat → List D → List SV
  | [], _, _ => []
  | k :: r, j, ds => .val k (canon k (ds.getD j .no)) :: valsFrom r (j + 1) ds
theorem resSV_valsK : ∀ (ks : List KT) (base j : Nat) (ds : List D), resSV (ks.map RM.val) base j ds = some (valsFrom ks j ds, []) := by
  intro ks
  induction ks with
  | nil => intro base j ds; rfl
  | cons k r ih => intro base j ds; simp only [List.map_cons, resSV, ih, opt, valsFrom]
theorem valsFrom_rel {tt : TT} {ι : Nat → Value} {M : Mem} : ∀ (ks : List KT) (us : List Value) (ds pre : List D), RepAll tt M ks us ds → us.length = (valsFrom ks pre.length (pre ++ ds)).length ∧
    ∀ (i : Nat) (s : SV) (x : Value), (valsFrom ks pre.length (pre ++ ds))[i]? = some s → us[i]? = some x → SVRel0 tt ι M s x := by
  intro ks
  induction ks with
  | nil =>
    intro us ds pre h
    cases us with
    | nil => exact ⟨rfl, fun i s x h => by simp [valsFrom] at h⟩
    | cons _ _ => cases ds <;> exact h.elim
  | cons k r ih =>
    intro us ds pre h
    cases us with
    | nil => cases ds <;> exact h.elim
    | cons u us =>
      cases ds with
      | nil => exact h.elim
      | cons d ds =>
        obtain ⟨h1, h2⟩ := h
        have hg : (pre ++ d :: ds).getD pre.length .no = d := by simp [List.getD_eq_getElem?_getD]
        have hr := ih us ds (pre ++ [d]) h2
        rw [List.length_append, List.append_assoc] at hr
        simp only [List.length_singleton, List.singleton_append] at hr
        simp only [valsFrom, hg]
        refine ⟨by simp [hr.1], fun i s x hs hx => ?_⟩
        cases i with
        | zero =>
          simp at hs hx; subst hs hx
          show Rep tt M k u (canon k d)
          rw [h1.canon]; exact h1
        | succ i => exact hr.2 i s x (by simpa using hs) (by simpa using hx)
theorem ret_grow {w w' : World} {M : Mem} {ks : List KT} {us : List Value} {ds : List D} (hM : ∀ ad v, M ad = some v → w.cell? ad = some v) (hB : Go.RowKit.Below w.heap.size w w') (h : RepAll E.tt (growMem M w w') ks us ds) : RetV E w M (ks.map RM.val) ds (resultVal us) w' := by
  intro base svs os hr
  rw [resSV_valsK] at hr
  injection hr with hr; injection hr with h1 h2; subst h1 h2
  refine ⟨fun _ => undef, growMem M w w', HRel.grow hM hB _, ?_⟩
  obtain ⟨q1, q2⟩ := valsFrom_rel (ι := fun _ => undef) ks us ds [] h
  simp only [List.length_nil, List.nil_append] at q1 q2
  have hk : ∀ s ∈ valsFrom ks 0 ds, ∃ k d, s = .val k d := by
    have key : ∀ (ks : List KT) (j : Nat), ∀ s ∈ valsFrom ks j ds, ∃ k d, s = .val k d := by
      intro ks
      induction ks with
      | nil => intro j s h; cases h
      | cons k r ih =>
        intro j s h
        rcases List.mem_cons.1 h with rfl | h
        · exact ⟨_, _, rfl⟩
        · exact ih _ s h
    exact key ks 0
  generalize valsFrom ks 0 ds = l at q1 q2 hk
  match l, us, q1, q2, hk with
  | [s], [u], _, q2, hk =>
    obtain ⟨k, d, rfl⟩ := hk s List.mem_cons_self
    exact q2 0 _ u rfl rfl
  | [], [], _, q2, _ => exact ⟨[], rfl, rfl, q2⟩
  | a :: b :: r, u :: x :: v, q1, q2, _ => exact ⟨u :: x :: v, rfl, q1, q2⟩
  | [], _ :: _, q1, _, _ => cases q1
  | [_], [], q1, _, _ => cases q1
  | [_], _ :: _ :: _, q1, _, _ => simp at q1
  | _ :: _ :: _, [], q1, _, _ => simp at q1
  | _ :: _ :: _, [_], q1, _, _ => simp at q1
/-- A function of plain data that lays new memory only. -/
theorem ext_grow {f : Nat} {fn : Func} {c : Code} (hf : P.funcs[f]? = some fn) (hn : (fn.name == "runtime.NumGoroutine") = false) (hb : fn.body = some c) {ps : List PM} {rs : List RM} {ks : List KT} (hs : lk f E.sigs = some ⟨ps, rs, false⟩) (hrs : rs = ks.map RM.val) (hp : allValP ps = true) {g : List D → Option (List D)} {W0 : World}
    (h : ∀ ds r, g ds = some r → ∀ (w : World) M vs, Same W0 w → (∀ ad v, M ad = some v → w.cell? ad = some v) → ArgsRep E.tt M ps vs (canonA ps ds) →
      Calls P f vs.toArray w fun e w' => ∃ us, e = .returned (resultVal us) ∧ Go.RowKit.Below w.heap.size w w' ∧ RepAll E.tt (growMem M w w') ks us r) : ExtOK P E W0 f g := by
  intro sg ds r hsg hr w M vs X hS hX ha
  rw [hs] at hsg; injection hsg with hsg; subst hsg
  obtain ⟨ha, hM⟩ := vals_of hp ha
  refine calls_enter hf hn hb ((h ds r hr w M vs hS hM ha).mono fun e w' he => ?_)
  obtain ⟨us, rfl, hB, hrep⟩ := he
  refine ⟨_, rfl, ret_of hp ?_⟩
  subst hrs
  exact ret_grow hM hB hrep

/-- A function that is never reached. -/
def xNone : List D → Option (List D) := fun _ => none
theorem extNone {f : Nat} {W0 : World} : ExtOK P E W0 f xNone := fun sg ds r _ hr => by cases hr

/-! ### Strings: searches for one byte -/
def xIndex1 : List D → Option (List D)
  | [.str a, .str [c]] => some [.int (Lib.indexByte a c)]
  | _ => none
def xCount1 : List D → Option (List D)
  | [.str a, .str [c]] => some [.int (Lib.countByte a c : Int)]
  | _ => none
theorem ba_one {t : ByteArray} {c : UInt8} (h : t.data.toList = [c]) : t = ⟨#[c]⟩ := by
  cases t with
  | mk d => congr 1; apply Array.toList_inj.1; rw [h]
theorem extIndex1 {f : Nat} {fn : Func} {c : Code} (hf : P.funcs[f]? = some fn) (hn : (fn.name == "runtime.NumGoroutine") = false) (hb : fn.body = some c) (hs : lk f E.sigs = some ⟨[.val .str, .val .str], [.val (.int .i64)], false⟩)
    (hc : ∀ (s : ByteArray) (c : UInt8) (w : World), Calls P f #[.string s, .string ⟨#[c]⟩] w fun e w' => e = .returned (.int .i64 (Lib.indexByte s.data.toList c)) ∧ w' = w) {W0 : World} : ExtOK P E W0 f xIndex1 := by
  refine ext_pure hf hn hb hs rfl fun ds r hr => ?_
  unfold xIndex1 at hr
  split at hr
  · rename_i a c
    injection hr with hr
    refine ⟨_, hr.symm, fun M vs ha => ?_⟩
    replace ha : ArgsRep E.tt M [.val .str, .val .str] vs [.str a, .str [c]] := ha
    obtain ⟨v1, vs, x1, xs, rfl, e, h1, ha⟩ := args_cons ha
    injection e with e3 e4; subst e3 e4
    obtain ⟨v2, vs, x2, xs, rfl, e, h2, ha⟩ := args_cons ha
    injection e with e3 e4; subst e3 e4
    obtain ⟨rfl, _⟩ := args_nil ha
    obtain ⟨s, rfl, e1, hsz⟩ := h1.inv_str
    obtain ⟨t, rfl, e2, _⟩ := h2.inv_str
    injection e1 with e1; injection e2 with e2
    subst e1
    rw [ba_one e2.symm]
    exact ⟨_, fun M' => .int _ _ (indexByte_wf (by rw [Array.length_toList]; exact hsz) _), fun w => hc s c w⟩
  · cases hr
theorem count_wf {l : List UInt8} (h : l.length ≤ maxLen) (c : UInt8) : (Lit.int .i64 (Lib.countByte l c : Int)).wf = true := by
  have h2 : Lib.countByte l c ≤ l.length := List.count_le_length
  have h3 : maxLen = 9223372036854775807 := by decide
  simp only [Lit.wf, IntKind.min, IntKind.max, IntKind.signed, IntKind.bits, Bool.and_eq_true, decide_eq_true_eq, if_true]
  omega
theorem extCount1 {f : Nat} {fn : Func} {c : Code} (hf : P.funcs[f]? = some fn) (hn : (fn.name == "runtime.NumGoroutine") = false) (hb : fn.body = some c) (hs : lk f E.sigs = some ⟨[.val .str, .val .str], [.val (.int .i64)], false⟩)
    (hc : ∀ (s : ByteArray) (c : UInt8) (w : World), Calls P f #[.string s, .string ⟨#[c]⟩] w fun e w' => e = .returned (.int .i64 (Lib.countByte s.data.toList c : Int)) ∧ w' = w) {W0 : World} : ExtOK P E W0 f xCount1 := by
  refine ext_pure hf hn hb hs rfl fun ds r hr => ?_
  unfold xCount1 at hr
  split at hr
  · rename_i a c
    injection hr with hr
    refine ⟨_, hr.symm, fun M vs ha => ?_⟩
    replace ha : ArgsRep E.tt M [.val .str, .val .str] vs [.str a, .str [c]] := ha
    obtain ⟨v1, vs, x1, xs, rfl, e, h1, ha⟩ := args_cons ha
    injection e with e3 e4; subst e3 e4
    obtain ⟨v2, vs, x2, xs, rfl, e, h2, ha⟩ := args_cons ha
    injection e with e3 e4; subst e3 e4
    obtain ⟨rfl, _⟩ := args_nil ha
    obtain ⟨s, rfl, e1, hsz⟩ := h1.inv_str
    obtain ⟨t, rfl, e2, _⟩ := h2.inv_str
    injection e1 with e1; injection e2 with e2
    subst e1
    rw [ba_one e2.symm]
    exact ⟨_, fun M' => .int _ _ (count_wf (by rw [Array.length_toList]; exact hsz) _), fun w => hc s c w⟩
  · cases hr
end
end Go.Proofs.YthbncndefigidaaDoor.DS
