/- The data-level semantics: plain data, an interpreter of the program over them, and its soundness; part 1. -/
import Derived.Test.YtcmeincdmphaoaaDoorF0
import Derived.OpenShut
import Derived.Laws.StructEq
import Derived.MapKept
import Derived.ChangeMaps5
set_option linter.unusedVariables false
set_option linter.unusedSimpArgs false
namespace Go.Proofs.YtcmeincdmphaoaaDoor.DS
open Go.RowKit

theorem const_rel {tt : TT} {ι : Nat → Value} {M : Mem} {v : Value} {s : SV} (h : constSV v = some s) : SVRel0 tt ι M s v := by
  unfold constSV at h
  split at h
  · injection h with h; subst h; exact .bool _
  · obtain ⟨hw, h⟩ := cond_some.1 h
    injection h with h; subst h; exact .int _ _ hw
  · rename_i s'
    obtain ⟨hw, h⟩ := cond_some.1 h
    injection h with h; subst h
    have := Nat.le_of_ble_eq_true hw
    exact .str s' (by rw [Array.length_toList] at this; exact this)
  · injection h with h; subst h; rfl
  · injection h with h; subst h; exact trivial
  · injection h with h; subst h; exact trivial
  · injection h with h; subst h; exact Rep.any _ rfl rfl
  · cases h

theorem svD1_rel {tt : TT} {ι : Nat → Value} {M : Mem} {k : KT} {s : SV} {d : D} {v : Value} (h : svD1 k s = some d) (hr : SVRel0 tt ι M s v) : Rep tt M k v d := by
  cases s with
  | val k' d' =>
    replace h := cond_some.1 h
    obtain ⟨he, h⟩ := h
    have he := KT.eq_iff.1 he
    subst he
    injection h with h; subst h; exact hr
  | nil =>
    cases k <;> simp [svD1] at h
    subst h
    have : v = .slice none 0 0 := hr
    rw [this]; exact .nil _ _ _ (by omega)
  | _ => simp [svD1] at h
theorem cellsD_rel {tt : TT} {ι : Nat → Value} {M : Mem} : ∀ (ks : List KT) (ss : List SV) (ds : List D) (cc : List Value), cellsD ks ss = some ds → cc.length = ss.length → (∀ (i : Nat) (s : SV) (c : Value), ss[i]? = some s → cc[i]? = some c → SVRel0 tt ι M s c) →
    ds.length = ks.length ∧ ss.length = ks.length ∧ ∀ (i : Nat) (h1 : i < ks.length) (h2 : i < cc.length) (h3 : i < ds.length), Rep tt M ks[i] cc[i] ds[i] := by
  intro ks
  induction ks with
  | nil =>
    intro ss ds cc h hl hr
    cases ss with
    | nil => simp [cellsD] at h; subst h; exact ⟨rfl, rfl, fun i h1 => absurd h1 (by simp)⟩
    | cons s ss => simp [cellsD] at h
  | cons k ks ih =>
    intro ss ds cc h hl hr
    cases ss with
    | nil => simp [cellsD] at h
    | cons s ss =>
      cases cc with
      | nil => simp at hl
      | cons c cc =>
        simp only [cellsD] at h
        split at h
        · rename_i d r hd hr2
          injection h with h; subst h
          obtain ⟨i1, i2, i3⟩ := ih ss r cc hr2 (by simpa using hl) (fun i s c hs hc => hr (i + 1) s c (by simpa using hs) (by simpa using hc))
          refine ⟨by simp [i1], by simp [i2], ?_⟩
          intro i h1 h2 h3
          cases i with
          | zero => exact svD1_rel hd (hr 0 s c rfl rfl)
          | succ i => simpa using i3 i (by simpa using h1) (by simpa using h2) (by simpa using h3)
        · cases h
theorem svD_rel {tt : TT} {ι : Nat → Value} {M : Mem} {k : KT} {s : SV} {d : D} {v : Value} (h : svD k s = some d) (hr : SVRel tt ι M s v) : Rep tt M k v d := by
  cases s with
  | tup l => simp [svD, svD1] at h
  | sag t ks l =>
    simp only [svD] at h
    cases k with
    | agg u =>
      replace h := cond_some.1 h
      obtain ⟨he, h⟩ := h
      have he := beq_iff.1 he
      subst he
      generalize hc : cellsD ks l = q at h
      cases q with
      | none => cases h
      | some ds =>
        injection h with h; subst h
        obtain ⟨ti, vs, h1, h2, h3, rfl, h5, h6, h7⟩ := hr
        subst h3
        obtain ⟨q1, q2, q3⟩ := cellsD_rel _ _ _ _ hc h5 h7
        exact .agg t ti vs ds h1 h2 (by rw [h5, h6]) q1 (fun i a b c => q3 i a b c)
    | _ => cases h
  | val k' d' => exact svD1_rel (ι := ι) (s := .val k' d') h hr
  | nil => exact svD1_rel (ι := ι) (M := M) (s := .nil) h hr
  | _ => simp [svD, svD1] at h

section
variable {P : Program} {E : Env} {st : St} {ops : List Oper} {L : List (Nat × Bool)} {a : Act} {w : World} {ι : Nat → Value} {M : Mem}

theorem wf_tmod (k : IntKind) (x y : Int) (h : (Lit.int k x).wf = true) : (Lit.int k (x.tmod y)).wf = true := by
  simp only [Lit.wf, Bool.and_eq_true, decide_eq_true_eq] at h ⊢
  have h1 : (x.tmod y).natAbs ≤ x.natAbs := by
    rw [Int.natAbs_tmod]; exact Nat.mod_le _ _
  have h2 : 0 ≤ x → 0 ≤ x.tmod y := fun hx => Int.tmod_nonneg y hx
  have h3 : x ≤ 0 → x.tmod y ≤ 0 := fun hx => by
    have := Int.tmod_nonneg y (show 0 ≤ -x by omega)
    rw [Int.neg_tmod] at this
    omega
  have hmin : k.min ≤ 0 := by cases k <;> decide
  have hmax : 0 ≤ k.max := by cases k <;> decide
  rcases Int.le_total 0 x with hx | hx
  · have := h2 hx; omega
  · have := h3 hx; omega
theorem wf_fdiv (k : IntKind) (x : Int) (n : Nat) (h : (Lit.int k x).wf = true) : (Lit.int k (x.fdiv (2 ^ n))).wf = true := by
  simp only [Lit.wf, Bool.and_eq_true, decide_eq_true_eq] at h ⊢
  have hp : (0 : Int) < 2 ^ n := Int.pow_pos (by decide)
  rw [Int.fdiv_eq_ediv_of_nonneg _ (Int.le_of_lt hp)]
  have hmin : k.min ≤ 0 := by cases k <;> decide
  have hmax : 0 ≤ k.max := by cases k <;> decide
  generalize (2 : Int) ^ n = p at hp
  constructor
  · rcases Int.le_total 0 x with hx | hx
    · have := Int.ediv_nonneg hx (Int.le_of_lt hp); omega
    · have : x ≤ x / p := by
        rw [Int.le_ediv_iff_mul_le hp]
        have := Int.mul_le_mul_of_nonpos_left hx (show (1 : Int) ≤ p by omega)
        omega
      omega
  · rcases Int.le_total 0 x with hx | hx
    · have := Int.ediv_le_self p hx; omega
    · have : x / p ≤ 0 := by
        have := Int.ediv_le_ediv hp hx
        simpa using this
      omega

theorem eqGuard_int {op : BinOp} {t : TypeId} {x y : Operand} {k k' : IntKind} {m n : Int} : (eqGuard op t x y (.int k m) (.int k' n)).run P w = .ok () w := by cases op <;> rfl
theorem eqGuard_str {op : BinOp} {t : TypeId} {x y : Operand} {m n : ByteArray} : (eqGuard op t x y (.string m) (.string n)).run P w = .ok () w := by cases op <;> rfl
theorem eqGuard_bool {op : BinOp} {t : TypeId} {x y : Operand} {m n : Bool} : (eqGuard op t x y (.bool m) (.bool n)).run P w = .ok () w := by cases op <;> rfl

/-- What an operation on values gives. -/
def BinGives (P : Program) (tt : TT) (ι : Nat → Value) (M : Mem) (w : World) (op : BinOp) (t : TypeId) (u1 u2 : Value) (v : SV) : Prop :=
  ∃ u, (∀ x y, (do eqGuard op t x y u1 u2; binOp op t u1 u2 : Sem Value).run P w = .ok u w) ∧ SVRel tt ι M v u

theorem int_gives {tt : TT} {k : IntKind} {op : BinOp} {t : TypeId} {x y : Int} (hx : (Lit.int k x).wf = true) (hy : (Lit.int k y).wf = true) (hs : isShift op = false) {c : Bool} {v : SV}
    (h : intOp op k x y = some (.sv c v)) (hc : c = true) : BinGives P tt ι M w op t (.int k x) (.int k y) v := by
  subst hc
  unfold intOp at h
  cases op <;> simp only [Option.some.injEq, Out.sv.injEq, Bool.not_eq_true', decide_eq_false_iff_not, true_and, reduceCtorEq] at h <;> try (simp [isShift] at hs; done)
  case andNot =>
    subst h
    refine ⟨.int k (k.wrap (BitVec.ofInt k.bits x &&& ~~~BitVec.ofInt k.bits y).toNat), fun _ _ => ?_, .int _ _ (wf_wrap _ _)⟩
    have e : binOp .andNot t (.int k x) (.int k y) = Op.intBits .andNot k x y := by simp [binOp]
    simp only [Sem.run_bind, eqGuard_int, Result.andThen_ok, e]
    rfl
  all_goals first
    | (subst h
       refine ⟨_, fun _ _ => by first | (simp [eqGuard_int, binOp, Op.intArith, Op.intBits, Op.intCmp]; rfl) | (simp only [Sem.run_bind, eqGuard_int, Result.andThen_ok, binOp, ne_eq, not_true_eq_false, if_false, Op.intBits, Sem.run_pure]; done) | (simp only [Sem.run_bind, eqGuard_int, Result.andThen_ok, binOp, ne_eq, not_true_eq_false, if_false, Op.intBits, Sem.run_pure]; rfl), ?_⟩
       first | exact .int _ _ (wf_wrap _ _) | exact .bool _)
    | (replace h := And.intro h.1 h.2
       obtain ⟨hne, h⟩ := h
       subst h
       refine ⟨_, fun _ _ => by simp [eqGuard_int, binOp, Op.intDiv, hne]; rfl, ?_⟩
       first | exact .int _ _ (wf_wrap _ _) | exact .int _ _ (wf_tmod _ _ _ hx))

theorem shift_gives {tt : TT} {k k' : IntKind} {op : BinOp} {t : TypeId} {x y : Int} (hx : (Lit.int k x).wf = true) (hs : isShift op = true) {c : Bool} {v : SV}
    (h : shiftOp op k x y = some (.sv c v)) (hc : c = true) : BinGives P tt ι M w op t (.int k x) (.int k' y) v := by
  subst hc
  unfold shiftOp at h
  cases op <;> simp [isShift] at hs
  all_goals
    simp only [Option.some.injEq, Out.sv.injEq, decide_eq_true_eq] at h
    obtain ⟨hne, rfl⟩ := h
    have hn : ¬ y < 0 := by omega
    refine ⟨_, fun _ _ => by simp [eqGuard_int, binOp, Op.shift, hn]; rfl, ?_⟩
    first | exact .int _ _ (wf_wrap _ _) | exact .int _ _ (wf_fdiv _ _ _ hx)

theorem ba_toList (s : ByteArray) : s.toList = s.data.toList := by
  exact ByteArray.toList_eq s

theorem beqL (l m : List UInt8) : (l == m) = decide (l = m) := by
  rw [Bool.eq_iff_iff]; simp
theorem run_equalIn_bool {t : TypeId} (ht : P.underlying t = some .bool) (d : Nat) (x y : Bool) : (Op.equalIn (d + 1) t (.bool x) (.bool y)).run P w = .ok (x == y) w := by
  simp [Op.equalIn, run_underlying ht]
theorem run_equal_bool {t : TypeId} (ht : P.underlying t = some .bool) (x y : Bool) : (Op.equal t (.bool x) (.bool y)).run P w = .ok (x == y) w := run_equalIn_bool ht 9999 x y

theorem str_gives {tt : TT} {op : BinOp} {t : TypeId} {x y : ByteArray} (hx : x.size ≤ maxLen) (hy : y.size ≤ maxLen) {c : Bool} {v : SV}
    (h : strOp op x.data.toList y.data.toList = some (.sv c v)) (hc : c = true) : BinGives P tt ι M w op t (.string x) (.string y) v := by
  subst hc
  have hlx : x.data.toList.length = x.size := by rw [Array.length_toList]; rfl
  have hly : y.data.toList.length = y.size := by rw [Array.length_toList]; rfl
  unfold strOp at h
  cases op <;> simp only [Option.some.injEq, Out.sv.injEq, decide_eq_true_eq, true_and, reduceCtorEq] at h
  case add =>
    obtain ⟨hne, h⟩ := h
    subst h
    have hsz : ¬ ((x.size + y.size : Nat) : Int) > IntKind.i64.max := by
      rw [hlx, hly] at hne
      simp only [lim] at hne
      have : IntKind.i64.max = 9223372036854775807 := by decide
      omega
    refine ⟨.string (x ++ y), fun _ _ => ?_, ?_⟩
    · simp only [Sem.run_bind, eqGuard_str, Result.andThen_ok, binOp, Op.stringOp]
      rw [if_neg hsz]; rfl
    · have e : x.data.toList ++ y.data.toList = (x ++ y).data.toList := by simp
      rw [e]
      refine .str _ ?_
      rw [hlx, hly] at hne
      have : (x ++ y).size = x.size + y.size := by simp
      simp only [lim] at hne
      have : maxLen = 9223372036854775807 := by decide
      omega
  all_goals
    subst h
    refine ⟨_, fun _ _ => by simp only [Sem.run_bind, eqGuard_str, Result.andThen_ok, binOp, Op.stringOp, Sem.run_pure]; rfl, ?_⟩
    simp only [ba_toList, beqL]
    exact .bool _

theorem bool_gives {tt : TT} {op : BinOp} {t : TypeId} (ht : P.underlying t = some .bool) {x y : Bool} {c : Bool} {v : SV}
    (h : boolOp op x y = some (.sv c v)) (hc : c = true) : BinGives P tt ι M w op t (.bool x) (.bool y) v := by
  subst hc
  unfold boolOp at h
  cases op <;> simp only [Option.some.injEq, Out.sv.injEq, true_and, reduceCtorEq] at h
  all_goals
    subst h
    refine ⟨_, fun _ _ => by simp only [Sem.run_bind, eqGuard_bool, Result.andThen_ok, binOp, run_equal_bool ht, Sem.run_pure]; rfl, ?_⟩
    exact .bool _

/-- Structs of plain fields, field by field. -/
theorem eqFields_run {tt : TT} (hT : TTok P tt) (d : Nat) {cs es : List Value} {a b : D} {ks : List KT} (hc : cs.length = ks.length) (he : es.length = ks.length) (ha : a.cells.length = ks.length) (hb : b.cells.length = ks.length)
    (ra : ∀ i (h1 : i < ks.length) (h2 : i < cs.length) (h3 : i < a.cells.length), Rep tt M ks[i] cs[i] a.cells[i]) (rb : ∀ i (h1 : i < ks.length) (h2 : i < es.length) (h3 : i < b.cells.length), Rep tt M ks[i] es[i] b.cells[i]) :
    ∀ (fs : List Field) (n : Nat), plainF tt (fs.map fun f => (f.offset, f.type)) n = true → n + fs.length = ks.length → (∀ f ∈ fs, f.name ≠ "_") →
      (∀ f ∈ fs, ∃ fi, lk f.type tt = some fi ∧ (ks.drop f.offset).take fi.cells.length = fi.cells) →
      (Op.eqFields (d + 1) cs.toArray es.toArray fs).run P w = .ok (eqCells (ks.drop n) n a b) w := by
  intro fs
  induction fs with
  | nil =>
    intro n _ hn _ _
    rw [List.drop_eq_nil_of_le (by simp at hn; omega)]
    simp [Op.eqFields, eqCells]
  | cons f fs ih =>
    intro n hp hn hnm hk
    simp only [List.map_cons, plainF, Bool.and_eq_true] at hp
    obtain ⟨ho, hpk, hp⟩ := hp
    have ho := beq_iff.1 ho
    obtain ⟨fi, hfi, hfc⟩ := hk f List.mem_cons_self
    rw [hfi] at hpk
    have hpk : plainK fi.kt = true := hpk
    have hsg : fi.kt.single = true := by cases hq : fi.kt <;> rw [hq] at hpk <;> first | rfl | cases hpk
    have hcs1 := (hT _ _ hfi).cells_of_single hsg
    simp only [List.length_cons] at hn
    have hnl : n < ks.length := by omega
    rw [ho, hcs1] at hfc
    have hkn : ks[n] = fi.kt := by
      have : (ks.drop n).take 1 = [ks[n]] := by rw [List.take_one, List.head?_drop, List.getElem?_eq_getElem hnl]; rfl
      rw [show ([fi.kt] : List KT).length = 1 from rfl, this] at hfc
      injection hfc
    have hra := ra n hnl (by omega) (by omega)
    have hrb := rb n hnl (by omega) (by omega)
    have ca : D.cell a n = a.cells[n] := by simp [D.cell, List.getD_eq_getElem?_getD, List.getElem?_eq_getElem (show n < a.cells.length by omega)]
    have cb : D.cell b n = b.cells[n] := by simp [D.cell, List.getD_eq_getElem?_getD, List.getElem?_eq_getElem (show n < b.cells.length by omega)]
    have hpart : ∀ xs : List Value, (h : n < xs.length) → (part f.type xs.toArray f.offset).run P w = .ok xs[n] w := by
      intro xs h
      simp only [part, Sem.run_bind, run_isAgg (hT _ _ hfi), hsg, Bool.not_true, Result.andThen_ok]
      simp [ho, List.getElem?_eq_getElem h]
    have heq : (Op.equalIn (d + 1) f.type cs[n] es[n]).run P w = .ok (eqD fi.kt (D.cell a n) (D.cell b n)) w := by
      have hun := (hT _ _ hfi).under
      rw [hkn] at hra hrb
      rw [ca, cb]
      cases hkt : fi.kt with
      | bool =>
        rw [hkt] at hra hrb hun
        obtain ⟨e1, e2⟩ := Rep.inv_bool hra
        obtain ⟨e3, e4⟩ := Rep.inv_bool hrb
        rw [e1, e3]
        exact run_equalIn_bool hun.1 d _ _
      | int q =>
        rw [hkt] at hra hrb hun
        obtain ⟨e1, e2, _⟩ := Rep.inv_int hra
        obtain ⟨e3, e4, _⟩ := Rep.inv_int hrb
        rw [e1, e3, run_equalIn_int w d _ _ _ _ _ hun.1]
        rfl
      | str =>
        rw [hkt] at hra hrb hun
        obtain ⟨s1, e1, e2, _⟩ := Rep.inv_str hra
        obtain ⟨s2, e3, e4, _⟩ := Rep.inv_str hrb
        rw [e1, e3, e2, e4, run_equalIn_string w d _ _ _ hun.1]
        simp only [ByteArray.toList_eq, eqD, D.toStr]
        congr 1
        rw [Bool.eq_iff_iff]
        simp
      | _ => rw [hkt] at hpk; cases hpk
    have hnm1 := hnm f List.mem_cons_self
    simp only [Op.eqFields, hnm1, ne_eq, not_false_eq_true, if_true, Sem.run_bind, hpart cs (by omega), hpart es (by omega), heq, Result.andThen_ok]
    have hdr : ks.drop n = fi.kt :: ks.drop (n + 1) := by rw [List.drop_eq_getElem_cons hnl, hkn]
    rw [hdr]
    simp only [eqCells]
    cases eqD fi.kt (D.cell a n) (D.cell b n) with
    | false => simp
    | true =>
      simp only [Bool.not_true, Bool.false_eq_true, if_false, cond_true]
      exact ih (n + 1) hp (by omega) (fun g hg => hnm g (List.mem_cons_of_mem _ hg)) (fun g hg => hk g (List.mem_cons_of_mem _ hg))
theorem bin_gives {tt : TT} (hT : TTok P tt) {op : BinOp} {t : TypeId} {s1 s2 : SV} {u1 u2 : Value} (h1 : SVRel tt ι M s1 u1) (h2 : SVRel tt ι M s2 u2) {c : Bool} {v : SV} (h : binO tt op t s1 s2 = some (.sv c v)) (hc : c = true) :
    BinGives P tt ι M w op t u1 u2 v := by
  unfold binO at h
  split at h
  · obtain ⟨rfl, h4, h5⟩ := Rep.inv_int h1
    obtain ⟨rfl, h6, h7⟩ := Rep.inv_int h2
    cases hs : isShift op with
    | true => rw [hs] at h; exact shift_gives h5 hs h hc
    | false =>
      rw [hs] at h
      replace h := cond_some.1 h
      obtain ⟨he, h⟩ := h
      have he := ikEq_iff.1 he
      subst he
      exact int_gives h5 h7 hs h hc
  · obtain ⟨x, rfl, h4, h5⟩ := Rep.inv_str h1
    obtain ⟨y, rfl, h6, h7⟩ := Rep.inv_str h2
    subst h4 h6
    exact str_gives h5 h7 h hc
  · obtain ⟨rfl, h4⟩ := Rep.inv_bool h1
    obtain ⟨rfl, h6⟩ := Rep.inv_bool h2
    split at h
    · rename_i ti ht
      replace h := cond_some.1 h
      obtain ⟨he, h⟩ := h
      have he := KT.eq_iff.1 he
      have hu := (hT t ti ht).under
      rw [he] at hu
      exact bool_gives hu.1 h hc
    · cases h
  · rename_i k a k' b
    split at h
    · rename_i ti ht
      obtain ⟨he, hA⟩ := cond_some.1 h
      clear h
      simp only [Bool.and_eq_true] at he
      obtain ⟨e1, e2, e3, e4⟩ := he
      have e1 := KT.eq_iff.1 e1
      have e2 := KT.eq_iff.1 e2
      have e4 := beq_iff.1 e4
      have hu := (hT t ti ht).under
      rw [e1] at hu
      obtain ⟨hkt, fs, hun, hfs, hall⟩ := hu
      rw [e1] at e2; injection e2 with e2
      subst e2
      subst hkt
      obtain ⟨hnm, hst, hgd⟩ := (hT _ ti ht).eqs e3 fs hun
      obtain ⟨ti1, cs, rfl, _, ht1, _, hc1, hd1, hr1⟩ := Rep.inv_agg h1
      obtain ⟨ti2, es, rfl, _, ht2, _, hc2, hd2, hr2⟩ := Rep.inv_agg h2
      rw [ht] at ht1 ht2; injection ht1 with ht1; injection ht2 with ht2; subst ht1 ht2
      have hfo : P.fieldsOf k = fs := by simp [Program.fieldsOf, hun]
      have hrun := eqFields_run (w := w) hT 9998 hc1 hc2 hd1 hd2 hr1 hr2 fs.toList 0 (by rw [← hfs]; exact e3) (by rw [hfs] at e4; simpa using e4) hnm (fun f hf => by obtain ⟨fi, q1, q2, _⟩ := hall f hf; exact ⟨fi, q1, q2⟩)
      rw [List.drop_zero] at hrun
      have heq : (Op.equalIn 10000 k (.agg cs.toArray) (.agg es.toArray)).run P w = .ok (eqCells ti.cells 0 a b) w := by
        rw [run_equalIn_agg w 9999 k cs.toArray es.toArray (by rw [hfo]; exact hun) hst, hfo]; exact hrun
      subst hc
      cases op <;> first
        | (simp only [aggOp] at hA; cases hA; done)
        | (simp only [aggOp, Option.some.injEq, Out.sv.injEq, true_and] at hA
           subst hA
           refine ⟨_, fun x y => ?_, .bool _⟩
           rw [Sem.run_bind, run_eqGuard_agg w _ k x y _ _ hgd, Result.andThen_ok, run_eql_struct, heq]; rfl)
        | (simp only [aggOp, Option.some.injEq, Out.sv.injEq, true_and] at hA
           subst hA
           refine ⟨_, fun x y => ?_, .bool _⟩
           rw [Sem.run_bind, run_eqGuard_agg w _ k x y _ _ hgd, Result.andThen_ok, run_neq_struct, heq]; rfl)
    · cases h
  · cases h

end
end Go.Proofs.YtcmeincdmphaoaaDoor.DS

namespace Go.Proofs.YtcmeincdmphaoaaDoor.DS
open Go.RowKit

theorem setSVs_get (xs : List SV) : ∀ (cs : List SV) (off k : Nat), off + xs.length ≤ cs.length → (setSVs cs off xs)[k]? = if off ≤ k ∧ k < off + xs.length then xs[k - off]? else cs[k]? := by
  induction xs with
  | nil => intro cs off k h; simp only [setSVs, List.length_nil]; rw [if_neg (by omega)]
  | cons x r ih =>
    intro cs off k h
    simp only [List.length_cons] at h
    simp only [setSVs]
    rw [ih (cs.set off x) (off + 1) k (by simp; omega)]
    simp only [List.length_cons, List.getElem?_set]
    by_cases h1 : k = off
    · subst h1
      rw [if_neg (by omega), if_pos rfl, if_pos (by omega), if_pos ⟨by omega, by omega⟩]; simp
    · by_cases h2 : off + 1 ≤ k ∧ k < off + 1 + r.length
      · rw [if_pos h2, if_pos ⟨by omega, by omega⟩]
        rw [show k - off = (k - (off + 1)) + 1 by omega, List.getElem?_cons_succ]
      · rw [if_neg h2, if_neg (by omega), if_neg (by omega)]
theorem setSVs_length (xs : List SV) : ∀ (cs : List SV) (off : Nat), (setSVs cs off xs).length = cs.length := by
  induction xs with
  | nil => intro cs off; rfl
  | cons x r ih => intro cs off; simp [setSVs, ih]

theorem expand_get (ks : List KT) (d : D) : ∀ (i j : Nat), (expand ks d i)[j]? = (ks[j]?).map fun k => .val k (canon k (d.cell (i + j))) := by
  induction ks with
  | nil => intro i j; simp [expand]
  | cons k r ih =>
    intro i j
    cases j with
    | zero => simp [expand]
    | succ j => simp [expand, ih, Nat.add_assoc, Nat.add_comm 1 j]
theorem expand_length (ks : List KT) (d : D) : ∀ i, (expand ks d i).length = ks.length := by
  induction ks with
  | nil => intro i; rfl
  | cons k r ih => intro i; simp [expand, ih]
theorem expand_rel {P : Program} {tt : TT} (hT : TTok P tt) {ι : Nat → Value} {M : Mem} {t : TypeId} {ti : TI} (ht : lk t tt = some ti) {v : Value} {d : D} (h : Rep tt M ti.kt v d) :
    ∀ (i : Nat) (s : SV) (c : Value), (expand ti.cells d 0)[i]? = some s → v.cells[i]? = some c → SVRel0 tt ι M s c := by
  obtain ⟨h1, h2, h3⟩ := h.kt_cells hT ht
  intro i s c hs hc
  rw [expand_get, Option.map_eq_some_iff] at hs
  obtain ⟨k, hk, rfl⟩ := hs
  obtain ⟨hlt, hk'⟩ := List.getElem?_eq_some_iff.1 hk
  obtain ⟨hlt2, hc'⟩ := Array.getElem?_eq_some_iff.1 hc
  have hr := h3 i hlt hlt2 (by omega)
  rw [hk', hc'] at hr
  show Rep tt M k c (canon k (d.cell (0 + i)))
  have e : d.cell (0 + i) = d.cells[i]'(by omega) := by simp [D.cell, List.getD_eq_getElem?_getD, List.getElem?_eq_getElem (show i < d.cells.length by omega)]
  rw [e, hr.canon]; exact hr
theorem toCells_rel {P : Program} {tt : TT} (hT : TTok P tt) {ι : Nat → Value} {M : Mem} {t : TypeId} {ti : TI} (ht : lk t tt = some ti) {cs : Array Value} {c : BC} (h : BCRel tt ι M ti cs c) : BCRel tt ι M ti cs (.cells (c.toCells ti)) := by
  cases c with
  | cells l => exact h
  | whole d =>
    obtain ⟨_, hr⟩ := h
    obtain ⟨h1, _, _⟩ := hr.kt_cells hT ht
    exact ⟨h1, expand_length _ _ _, fun i s c hs hc => expand_rel hT ht hr i s c hs hc⟩

section
variable {P : Program} {E : Env} (hT : TTok P E.tt) {st : St} {ops : List Oper} {L : List (Nat × Bool)} {a : Act} {w : World} {ι : Nat → Value} {M : Mem}
  (hev : ∀ x s, ev st ops L x = some s → SVRel E.tt ι M s (a.eval x))

theorem setCells_get (xs : List D) : ∀ (cs : List D) (off k : Nat), off + xs.length ≤ cs.length → (setCells cs off xs)[k]? = if off ≤ k ∧ k < off + xs.length then xs[k - off]? else cs[k]? := by
  induction xs with
  | nil => intro cs off k h; simp only [setCells, List.length_nil]; rw [if_neg (by omega)]
  | cons x r ih =>
    intro cs off k h
    simp only [List.length_cons] at h
    simp only [setCells]
    rw [ih (cs.set off x) (off + 1) k (by simp; omega)]
    simp only [List.length_cons, List.getElem?_set]
    by_cases h1 : k = off
    · subst h1
      rw [if_neg (by omega), if_pos rfl, if_pos (by omega), if_pos ⟨by omega, by omega⟩]; simp
    · by_cases h2 : off + 1 ≤ k ∧ k < off + 1 + r.length
      · rw [if_pos h2, if_pos ⟨by omega, by omega⟩]
        rw [show k - off = (k - (off + 1)) + 1 by omega, List.getElem?_cons_succ]
      · rw [if_neg h2, if_neg (by omega), if_neg (by omega)]
theorem setCells_length (xs : List D) : ∀ (cs : List D) (off : Nat), (setCells cs off xs).length = cs.length := by
  induction xs with
  | nil => intro cs off; rfl
  | cons x r ih => intro cs off; simp [setCells, ih]

theorem foldl_set_get (xs : List Value) : ∀ (cells : Array Value) (off b k : Nat), ((xs.zipIdx b).foldl (fun cs (c, j) => cs.setIfInBounds (off + j) c) cells)[k]? = if off + b ≤ k ∧ k < off + b + xs.length ∧ k < cells.size then xs[k - (off + b)]? else cells[k]? := by
  induction xs with
  | nil => intro cells off b k; simp only [List.zipIdx_nil, List.foldl_nil, List.length_nil]; rw [if_neg (by omega)]
  | cons x r ih =>
    intro cells off b k
    simp only [List.zipIdx_cons, List.foldl_cons, List.length_cons]
    rw [ih]
    simp only [Array.size_setIfInBounds]
    by_cases h1 : k = off + b
    · subst h1
      rw [if_neg (by omega)]
      by_cases h2 : off + b < cells.size
      · rw [if_pos ⟨by omega, by omega, h2⟩]; simp [h2]
      · rw [if_neg (by omega)]; simp [h2]
    · by_cases h2 : off + (b + 1) ≤ k ∧ k < off + (b + 1) + r.length ∧ k < cells.size
      · rw [if_pos h2, if_pos ⟨by omega, by omega, h2.2.2⟩]
        rw [show k - (off + b) = (k - (off + (b + 1))) + 1 by omega, List.getElem?_cons_succ]
      · rw [if_neg h2, if_neg (by omega)]
        simp [Array.getElem?_setIfInBounds, show ¬ off + b = k by omega]
theorem foldl_set_size (xs : List Value) : ∀ (cells : Array Value) (off b : Nat), ((xs.zipIdx b).foldl (fun cs (c, j) => cs.setIfInBounds (off + j) c) cells).size = cells.size := by
  induction xs with
  | nil => intro cells off b; rfl
  | cons x r ih => intro cells off b; simp [List.zipIdx_cons, ih]

theorem expandD_get (ks : List KT) (d : D) : ∀ (i j : Nat), (expandD ks d i)[j]? = (ks[j]?).map fun k => canon k (d.cell (i + j)) := by
  induction ks with
  | nil => intro i j; simp [expandD]
  | cons k r ih =>
    intro i j
    cases j with
    | zero => simp [expandD]
    | succ j => simp [expandD, ih, Nat.add_assoc, Nat.add_comm 1 j]
theorem expandD_eq {P : Program} {tt : TT} (hT : TTok P tt) {t : TypeId} {ti : TI} (ht : lk t tt = some ti) {v : Value} {d : D} (h : Rep tt M ti.kt v d) : expandD ti.cells d 0 = d.cells := by
  obtain ⟨h1, h2, h3⟩ := h.kt_cells hT ht
  apply List.ext_getElem?
  intro j
  rw [expandD_get]
  by_cases hj : j < ti.cells.length
  · rw [List.getElem?_eq_getElem hj, List.getElem?_eq_getElem (by omega)]
    simp only [Option.map_some, Nat.zero_add]
    have := (h3 j hj (by omega) (by omega)).canon
    rw [← this]
    congr 2
    simp [D.cell, List.getD_eq_getElem?_getD, List.getElem?_eq_getElem (show j < d.cells.length by omega), this]
  · rw [List.getElem?_eq_none (by omega), List.getElem?_eq_none (by omega)]; rfl

/-- Cells that hold data, cell by cell. -/
def CR (tt : TT) (M : Mem) (ks : List KT) (cells : Array Value) (cs : List D) : Prop :=
  cells.size = ks.length ∧ cs.length = ks.length ∧ ∀ (i : Nat) (k : KT) (v : Value) (d : D), ks[i]? = some k → cells[i]? = some v → cs[i]? = some d → Rep tt M k v d

theorem clo_out {draw : Bool} {t : Nat} {xs : List Operand} {out : Out} (h : cloO E draw st ops L t xs = some out) :
    draw = false ∧ ∃ f id sg ds, ev st ops L (.tmp t) = some (.clo f id) ∧ lk f E.sigs = some sg ∧ flatR sg.results = true ∧ argsC E st ops L id sg.params xs = some ds ∧ out = .call f ds sg.results := by
  cases draw with
  | true => cases h
  | false =>
    refine ⟨rfl, ?_⟩
    simp only [cloO, cond_false] at h
    obtain ⟨s, hs, h⟩ := opt_some.1 h
    cases s with
    | clo f id =>
      obtain ⟨sg, hsg, h⟩ := opt_some.1 h
      obtain ⟨hf, h⟩ := cond_some.1 h
      obtain ⟨ds, hds, h⟩ := opt_some.1 h
      injection h with h
      exact ⟨f, id, sg, ds, hs, hsg, hf, hds, h.symm⟩
    | _ => cases h
theorem mkf_out {draw : Bool} {f : Nat} {fs cs : List Operand} {out : Out} (h : makeFuncO draw st ops L f fs cs = some out) :
    draw = false ∧ ∃ x id u k, fs = [] ∧ cs = [x] ∧ ev st ops L x = some (.bptr id u 0 k) ∧ out = .sv true (.clo f id) := by
  cases draw with
  | true => cases h
  | false =>
    refine ⟨rfl, ?_⟩
    simp only [makeFuncO, cond_false] at h
    split at h
    · rename_i x
      obtain ⟨s, hs, h⟩ := opt_some.1 h
      cases s with
      | bptr id u off k =>
        obtain ⟨h0, h⟩ := cond_some.1 h
        have h0 := beq_iff.1 h0
        subst h0
        injection h with h
        exact ⟨x, id, u, k, rfl, rfl, hs, h.symm⟩
      | _ => cases h
    · cases h
theorem callF_out {draw : Bool} {sg : Sig} {f : Nat} {xs : List Operand} {out : Out} (h : cond (allValP sg.params)
      (opt (argsO st ops L (flatR sg.results) sg.params xs) fun ds => some (Out.call f ds sg.results))
      (cond (!draw || simpleH sg) (opt (hargsO E st ops L 0 sg.params xs) fun x => some (Out.hcall f x.1 sg (sndL x.2.1) x.2.2)) none) = some out) :
    (∃ ds, argsO st ops L (flatR sg.results) sg.params xs = some ds ∧ out = .call f ds sg.results) ∨ ((draw = false ∨ simpleH sg = true) ∧ ∃ x, hargsO E st ops L 0 sg.params xs = some x ∧ out = .hcall f x.1 sg (sndL x.2.1) x.2.2) := by
  generalize allValP sg.params = q at h
  cases q with
  | true =>
    obtain ⟨ds, h1, h2⟩ := opt_some.1 h
    injection h2 with h2
    exact .inl ⟨ds, h1, h2.symm⟩
  | false =>
    obtain ⟨hd, h⟩ := cond_some.1 (show cond (!draw || simpleH sg) _ none = some out from h)
    obtain ⟨x, h1, h2⟩ := opt_some.1 h
    injection h2 with h2
    refine .inr ⟨?_, x, h1, h2.symm⟩
    cases draw with
    | false => exact .inl rfl
    | true => exact .inr (by simpa using hd)
theorem buildO_sv {t : TypeId} {ps : List (Nat × Operand)} {out : Out} (h : buildO E st ops L t ps = some out) : ∃ v, out = .sv true v := by
  unfold buildO at h
  replace h := opt_some.1 h
  obtain ⟨ti, _, h⟩ := h
  split at h
  · generalize anySlice ti.cells = q at h
    cases q with
    | true =>
      replace h := opt_some.1 h
      obtain ⟨l, _, h⟩ := h
      generalize allVal l = q at h
      cases q with
      | true =>
        replace h := opt_some.1 h
        obtain ⟨d, _, h⟩ := h
        injection h with h; exact ⟨_, h.symm⟩
      | false => injection h with h; exact ⟨_, h.symm⟩
    | false =>
      replace h := opt_some.1 h
      obtain ⟨cs, _, h⟩ := h
      injection h with h; exact ⟨_, h.symm⟩
  · cases h

include hT in
theorem zero_rep {t : TypeId} {ti : TI} (ht : lk t E.tt = some ti) (hnp : ∀ k ∈ ti.cells, k ≠ .ptr ∧ k ≠ .map) : ∃ i, ∃ z : Value, P.info? t = some i ∧ i.zero = some z ∧ CR E.tt M ti.cells z.cells (ti.cells.map zeroD) := by
  have hi := hT t ti ht
  obtain ⟨i, z, h1, h2, h3, _, _, h4⟩ := hi.zero
  refine ⟨i, z, h1, h2, h3, by simp, ?_⟩
  intro j k v d hk hv hd
  rw [h4 j k hk] at hv
  injection hv with hv; subst hv
  simp only [List.getElem?_map, hk, Option.map_some, Option.some.injEq] at hd
  subst hd
  have hs := hi.single k (List.mem_of_getElem? hk)
  cases k with
  | bool => exact .bool false
  | int q => exact .int q 0 (by cases q <;> decide)
  | str => exact .str ByteArray.empty (by decide)
  | slice e => exact .nil _ _ _ (by omega)
  | agg u => simp [KT.single] at hs
  | ptr => exact absurd rfl (hnp _ (List.mem_of_getElem? hk)).1
  | map => exact absurd rfl (hnp _ (List.mem_of_getElem? hk)).2
  | any => exact .any _ rfl rfl

/-- Cells, and what they are known as. -/
def CS (tt : TT) (ι : Nat → Value) (M : Mem) (n : Nat) (cells : Array Value) (l : List SV) : Prop :=
  cells.size = n ∧ l.length = n ∧ ∀ (i : Nat) (s : SV) (v : Value), l[i]? = some s → cells[i]? = some v → SVRel0 tt ι M s v

include hT in
theorem zero_cells {t : TypeId} {ti : TI} (ht : lk t E.tt = some ti) (f : KT → SV) (hf : ∀ k, f k = zeroSB k ∨ ∃ id, f k = zeroSV id k) : ∃ i, ∃ z : Value, P.info? t = some i ∧ i.zero = some z ∧ ∀ ι : Nat → Value, CS E.tt ι M ti.cells.length z.cells (ti.cells.map f) := by
  have hi := hT t ti ht
  obtain ⟨i, z, h1, h2, h3, _, _, h4⟩ := hi.zero
  refine ⟨i, z, h1, h2, fun ι => ⟨h3, by simp, ?_⟩⟩
  intro j s v hs hv
  rw [List.getElem?_map, Option.map_eq_some_iff] at hs
  obtain ⟨k, hk, rfl⟩ := hs
  rw [h4 j k hk] at hv
  injection hv with hv; subst hv
  have hsg := hi.single k (List.mem_of_getElem? hk)
  have hB : SVRel0 E.tt ι M (zeroSB k) (zeroV k) := by
    cases k with
    | bool => exact Rep.bool false
    | int q => exact Rep.int q 0 (by cases q <;> decide)
    | str => exact Rep.str ByteArray.empty (by decide)
    | slice e => exact rfl
    | agg u => simp [KT.single] at hsg
    | ptr => trivial
    | map => trivial
    | any => exact Rep.any _ rfl rfl
  have hV : ∀ id, SVRel0 E.tt ι M (zeroSV id k) (zeroV k) := by
    intro id
    cases k with
    | ptr => exact .inl rfl
    | _ => exact hB
  rcases hf k with h | ⟨id, h⟩ <;> rw [h]
  · exact hB
  · exact hV id

theorem CS.part {tt : TT} {ti fi : TI} {off : Nat} {n : Nat} {cells : Array Value} {l ss : List SV} {vs : Array Value} (h : CS tt ι M n cells l) (hl : ss.length = vs.size) (ho : off + vs.size ≤ n)
    (hr : ∀ (i : Nat) (s : SV) (c : Value), ss[i]? = some s → vs[i]? = some c → SVRel0 tt ι M s c) : CS tt ι M n (vs.zipIdx.foldl (fun cs (c, j) => cs.setIfInBounds (off + j) c) cells) (setSVs l off ss) := by
  obtain ⟨c1, c2, c3⟩ := h
  rw [← Array.foldl_toList, Array.toList_zipIdx]
  refine ⟨by rw [foldl_set_size]; exact c1, by rw [setSVs_length]; exact c2, ?_⟩
  intro j s v hs hv
  rw [foldl_set_get, Nat.add_zero] at hv
  rw [setSVs_get _ _ _ _ (by omega)] at hs
  by_cases hj : off ≤ j ∧ j < off + ss.length
  · rw [if_pos hj] at hs
    rw [if_pos ⟨by omega, by rw [Array.length_toList]; omega, by omega⟩] at hv
    rw [Array.getElem?_toList] at hv
    exact hr _ s v hs hv
  · rw [if_neg hj] at hs
    rw [if_neg (by rw [Array.length_toList]; omega)] at hv
    exact c3 j s v hs hv

include hT in
theorem partS_rel {t : TypeId} {fi : TI} (ht : lk t E.tt = some fi) {s : SV} {l : List SV} {v : Value} (h : partS fi s = some l) (hv : SVRel E.tt ι M s v) :
    l.length = v.cells.size ∧ v.cells.size = fi.cells.length ∧ ∀ (i : Nat) (s : SV) (c : Value), l[i]? = some s → v.cells[i]? = some c → SVRel0 E.tt ι M s c := by
  have hi := hT t fi ht
  have one : ∀ s0, SVRel0 E.tt ι M s0 v → fi.kt.single = true → v.cells = #[v] → ([s0] : List SV).length = v.cells.size ∧ v.cells.size = fi.cells.length ∧ ∀ (i : Nat) (s : SV) (c : Value), ([s0] : List SV)[i]? = some s → v.cells[i]? = some c → SVRel0 E.tt ι M s c := by
    intro s0 h0 hsg hc
    rw [hc, hi.cells_of_single hsg]
    refine ⟨rfl, rfl, fun i s c hs hcc => ?_⟩
    cases i with
    | zero => simp at hs hcc; subst hs hcc; exact h0
    | succ i => simp at hs
  have dat : ∀ k d, s = .val k d → KT.eq fi.kt k = true → fi.kt.single = true → ([SV.val k d] : List SV).length = v.cells.size ∧ v.cells.size = fi.cells.length ∧ ∀ (i : Nat) (s : SV) (c : Value), ([SV.val k d] : List SV)[i]? = some s → v.cells[i]? = some c → SVRel0 E.tt ι M s c := by
    intro k d hs hk hsg
    subst hs
    have hk := KT.eq_iff.1 hk
    have hr : Rep E.tt M k v d := hv
    exact one _ hr hsg (hr.cells_single (by rw [← hk]; exact hsg)).1
  unfold partS at h
  split at h
  · rename_i u hk
    split at h
    · rename_i u' ks l'
      replace h := cond_some.1 h
      obtain ⟨he, h⟩ := h
      have he := beq_iff.1 he
      subst he
      injection h with h; subst h
      obtain ⟨ti, vs, h1, h2, h3, rfl, h5, h6, h7⟩ := hv
      have hut := hi.agg_self hk
      subst hut
      rw [ht] at h1; injection h1 with h1; subst h1
      refine ⟨by simp [Value.cells, h5], by simp [Value.cells, h5, h6, h3], fun i s c hs hc => h7 i s c hs (by simpa [Value.cells] using hc)⟩
    · rename_i k d
      replace h := cond_some.1 h
      obtain ⟨he, h⟩ := h
      have he := KT.eq_iff.1 he
      injection h with h; subst h
      have hr : Rep E.tt M k v d := hv
      rw [← he] at hr
      obtain ⟨q1, _, _⟩ := hr.kt_cells hT ht
      exact ⟨by rw [expand_length, q1], q1, fun i s c hs hc => expand_rel hT ht hr i s c hs hc⟩
    · cases h
  · rename_i e hk
    have hsg : fi.kt.single = true := by rw [hk]; rfl
    split at h
    · injection h with h; subst h
      have : v = .slice none 0 0 := hv
      subst this
      exact one _ rfl hsg rfl
    · rename_i i
      injection h with h; subst h
      obtain ⟨h1, a, n, c, h2⟩ : v = ι i ∧ ∃ a n c, ι i = .slice a n c := hv
      refine one _ ⟨h1, a, n, c, h2⟩ hsg ?_
      rw [h1, h2]; rfl
    · rename_i k d
      replace h := cond_some.1 h
      obtain ⟨he, h⟩ := h
      injection h with h; subst h
      exact dat k d rfl he hsg
    · cases h
  · rename_i hna hns
    split at h
    · rename_i k d
      replace h := cond_some.1 h
      obtain ⟨he, h⟩ := h
      injection h with h; subst h
      refine dat k d rfl he ?_
      cases hkt : fi.kt with
      | agg u => exact absurd hkt (hna u)
      | _ => rfl
    · cases h

include hT hev in
theorem fillS_sound {t : TypeId} {ti : TI} (ht : lk t E.tt = some ti) (fs : Array Field) (hfs : ti.fields = fs.toList.map fun f => (f.offset, f.type))
    (hall : ∀ f ∈ fs.toList, ∃ fi, lk f.type E.tt = some fi ∧ (ti.cells.drop f.offset).take fi.cells.length = fi.cells ∧ f.offset + fi.cells.length ≤ ti.cells.length)
    (places : Nat → Option (Nat × Nat)) (hpl : ∀ (i : Nat) (f : Field) fi, fs[i]? = some f → lk f.type E.tt = some fi → places i = some (f.offset, fi.cells.length)) (parts : List (Nat × Operand)) :
    ∀ (cells : Array Value) (cs cs' : List SV), CS E.tt ι M ti.cells.length cells cs → fillS E st ops L ti.fields parts cs = some cs' →
    ∃ cells', Instr.fill places cells (parts.map fun (i, x) => (i, a.eval x)) = some cells' ∧ CS E.tt ι M ti.cells.length cells' cs' := by
  induction parts with
  | nil => intro cells cs cs' hcr h; injection h with h; subst h; exact ⟨cells, rfl, hcr⟩
  | cons p r ih =>
    obtain ⟨i, x⟩ := p
    intro cells cs cs' hcr h
    simp only [fillS] at h
    replace h := opt_some.1 h
    obtain ⟨ft, hft, h⟩ := h
    replace h := opt_some.1 h
    obtain ⟨fi, hfi, h⟩ := h
    replace h := opt_some.1 h
    obtain ⟨s, hs, h⟩ := h
    replace h := opt_some.1 h
    obtain ⟨l, hl, h⟩ := h
    rw [hfs, List.getElem?_map, Option.map_eq_some_iff] at hft
    obtain ⟨f, hf, rfl⟩ := hft
    rw [Array.getElem?_toList] at hf
    obtain ⟨fi', hfi', hcc, hll⟩ := hall f (by have := List.mem_of_getElem? (l := fs.toList) (i := i) (by rw [Array.getElem?_toList]; exact hf); exact this)
    simp only at hfi
    rw [hfi] at hfi'; cases hfi'
    obtain ⟨k1, k2, k3⟩ := partS_rel hT hfi hl (hev x s hs)
    have hcz := hcr.1
    simp only at h
    simp only [List.map_cons, Instr.fill, hpl i f fi hf hfi]
    rw [if_neg (by simp; omega)]
    exact ih _ _ cs' (hcr.part (ti := ti) (fi := fi) k1 (by omega) k3) h

include hT hev in
theorem fill_sound {t : TypeId} {ti : TI} (ht : lk t E.tt = some ti) (fs : Array Field) (hfs : ti.fields = fs.toList.map fun f => (f.offset, f.type))
    (hall : ∀ f ∈ fs.toList, ∃ fi, lk f.type E.tt = some fi ∧ (ti.cells.drop f.offset).take fi.cells.length = fi.cells ∧ f.offset + fi.cells.length ≤ ti.cells.length)
    (places : Nat → Option (Nat × Nat)) (hpl : ∀ (i : Nat) (f : Field) fi, fs[i]? = some f → lk f.type E.tt = some fi → places i = some (f.offset, fi.cells.length)) (parts : List (Nat × Operand)) :
    ∀ (cells : Array Value) (cs cs' : List D), CR E.tt M ti.cells cells cs → fillD E st ops L ti.fields parts cs = some cs' →
    ∃ cells', Instr.fill places cells (parts.map fun (i, x) => (i, a.eval x)) = some cells' ∧ CR E.tt M ti.cells cells' cs' := by
  induction parts with
  | nil => intro cells cs cs' hcr h; injection h with h; subst h; exact ⟨cells, rfl, hcr⟩
  | cons p r ih =>
    obtain ⟨i, x⟩ := p
    intro cells cs cs' hcr h
    simp only [fillD] at h
    replace h := opt_some.1 h
    obtain ⟨ft, hft, h⟩ := h
    replace h := opt_some.1 h
    obtain ⟨fi, hfi, h⟩ := h
    replace h := opt_some.1 h
    obtain ⟨s, hs, h⟩ := h
    replace h := opt_some.1 h
    obtain ⟨d, hd, h⟩ := h
    have hrep := svD_rel hd (hev x s hs)
    rw [hfs, List.getElem?_map, Option.map_eq_some_iff] at hft
    obtain ⟨f, hf, rfl⟩ := hft
    rw [Array.getElem?_toList] at hf
    obtain ⟨fi', hfi', hcc, hll⟩ := hall f (by have := List.mem_of_getElem? (l := fs.toList) (i := i) (by rw [Array.getElem?_toList]; exact hf); exact this)
    simp only at hfi
    rw [hfi] at hfi'; cases hfi'
    obtain ⟨k1, k2, k3⟩ := hrep.kt_cells hT hfi
    obtain ⟨c1, c2, c3⟩ := hcr
    have hnew : setField fi.kt fi.cells cs f.offset d = setCells cs f.offset d.cells := by
      cases hk : fi.kt with
      | agg u => simp only [setField, expandD_eq hT hfi hrep]
      | _ =>
        have hc1 := (hrep.cells_single (by rw [hk]; rfl)).2.1
        rw [hc1]; rfl
    simp only at h
    rw [hnew] at h
    simp only [List.map_cons, Instr.fill, hpl i f fi hf hfi]
    rw [if_neg (by simp; omega)]
    refine ih _ _ cs' ?_ h
    rw [← Array.foldl_toList, Array.toList_zipIdx]
    refine ⟨by rw [foldl_set_size]; exact c1, by rw [setCells_length]; exact c2, ?_⟩
    intro j k v d' hk hv hd'
    rw [foldl_set_get, Nat.add_zero] at hv
    rw [setCells_get _ _ _ _ (by omega)] at hd'
    by_cases hj : f.offset ≤ j ∧ j < f.offset + d.cells.length
    · rw [if_pos hj] at hd'
      rw [if_pos ⟨by omega, by rw [Array.length_toList]; omega, by omega⟩] at hv
      have h4 := congrArg (fun l => l[j - f.offset]?) hcc
      simp only [List.getElem?_take, List.getElem?_drop] at h4
      rw [if_pos (by omega), show f.offset + (j - f.offset) = j by omega, hk] at h4
      rw [Array.getElem?_toList] at hv
      rw [Array.getElem?_eq_getElem (by omega)] at hv
      rw [List.getElem?_eq_getElem (by omega)] at hd'
      rw [List.getElem?_eq_getElem (by omega)] at h4
      injection hv with hv; injection hd' with hd'; injection h4 with h4
      rw [← hv, ← hd', h4]
      exact k3 (j - f.offset) (by omega) (by omega) (by omega)
    · rw [if_neg hj] at hd'
      rw [if_neg (by rw [Array.length_toList]; omega)] at hv
      exact c3 j k v d' hk hv hd'

include hT hev in
theorem build_sound {o : Oper} {t : TypeId} {ps : Array (Nat × Operand)} (ho : o.op = .build t ps) {c : Bool} {v : SV} (h : buildO E st ops L t ps.toList = some (.sv c v)) : Gives P E.tt ι M a w o v := by
  unfold buildO at h
  replace h := opt_some.1 h
  obtain ⟨ti, ht, h⟩ := h
  have hi := hT t ti ht
  have hu := hi.under
  split at h
  · rename_i u hk
    rw [hk] at hu
    obtain ⟨rfl, fs, hun, hfs, hall⟩ := hu
    have hplaces : ∃ pl : Array (Nat × Nat), (fs.mapM fun f => (do pure (f.offset, ← sizeOf f.type) : Sem (Nat × Nat))).run P w = .ok pl w ∧ ∀ (j : Nat) (f : Field) fi, fs[j]? = some f → lk f.type E.tt = some fi → pl[j]? = some (f.offset, fi.cells.length) := by
      have key : ∀ (l : List Field), (∀ f ∈ l, ∃ fi, lk f.type E.tt = some fi) → ∃ pl : List (Nat × Nat), (l.mapM fun f => (do pure (f.offset, ← sizeOf f.type) : Sem (Nat × Nat))).run P w = .ok pl w ∧ ∀ (j : Nat) (f : Field) fi, l[j]? = some f → lk f.type E.tt = some fi → pl[j]? = some (f.offset, fi.cells.length) := by
        intro l
        induction l with
        | nil => intro _; exact ⟨[], by simp, fun j f fi h => by simp at h⟩
        | cons f r ih =>
          intro hall
          obtain ⟨pl, h1, h2⟩ := ih (fun f hf => hall f (List.mem_cons_of_mem _ hf))
          obtain ⟨fi, hfi⟩ := hall f List.mem_cons_self
          obtain ⟨fI, hfI, hsz, _⟩ := (hT _ _ hfi).info
          refine ⟨(f.offset, fi.cells.length) :: pl, ?_, ?_⟩
          · rw [List.mapM_cons]
            simp only [Sem.run_bind, run_size hfI, Result.andThen_ok, Sem.run_pure, h1, hsz]
          · intro j g gi hj hg
            cases j with
            | zero => simp at hj; subst hj; rw [hfi] at hg; cases hg; rfl
            | succ j => simpa using h2 j g gi (by simpa using hj) hg
      obtain ⟨pl, h1, h2⟩ := key fs.toList (fun f hf => let ⟨fi, h, _⟩ := hall f hf; ⟨fi, h⟩)
      refine ⟨pl.toArray, ?_, fun j f fi hj hfi => by simpa using h2 j f fi (by simpa using hj) hfi⟩
      rw [Array.mapM_eq_mapM_toList]
      simp only [Sem.run_map, h1, Result.andThen_ok]
    obtain ⟨pl, hpl, hpl2⟩ := hplaces
    cases hany : anySlice ti.cells with
    | true =>
      rw [hany] at h
      replace h := opt_some.1 h
      obtain ⟨l, hl, h⟩ := h
      obtain ⟨i, z, hinfo, hz, hcr⟩ := zero_cells (M := M) hT ht zeroSB (fun k => .inl rfl)
      obtain ⟨cells', hfill, hcr'⟩ := fillS_sound hT hev ht fs hfs hall (fun j => pl[j]?) hpl2 ps.toList _ _ _ (hcr ι) hl
      have hsag : SVRel E.tt ι M (.sag u ti.cells l) (.agg cells') := by
        obtain ⟨q1, q2, q3⟩ := hcr'
        refine ⟨ti, cells'.toList, ht, hk, rfl, by simp, by rw [Array.length_toList]; omega, q2, fun i s x hs hx => q3 i s x hs (by simpa using hx)⟩
      have hex : (execOp a.eval o).run P w = .ok (.value (.agg cells')) w := by
        refine execOp_value (s := Instr.build u (ps.map fun (i, x) => (i, a.eval x))) (by simp [execOp, ho]) ?_
        have hz2 : (zeroValue u).run P w = .ok z w := by simp [zeroValue, run_info hinfo, hz]
        have e : (ps.map fun (i, x) => (i, a.eval x)).toList = ps.toList.map fun (i, x) => (i, a.eval x) := by simp
        simp only [Instr.build, Sem.run_bind, hz2, Result.andThen_ok, run_underlying hun, hpl, e, hfill, Sem.run_pure]
      cases hav : allVal l with
      | true =>
        rw [hav] at h
        replace h := opt_some.1 h
        obtain ⟨d, hd, h⟩ := h
        injection h with h; injection h with h1 h2; subst h2
        exact ⟨_, hex, svD_rel hd hsag⟩
      | false =>
        rw [hav] at h
        injection h with h; injection h with h1 h2; subst h2
        exact ⟨_, hex, hsag⟩
    | false =>
    rw [hany] at h
    replace h := opt_some.1 h
    obtain ⟨cs, hcs, h⟩ := h
    injection h with h; injection h with h1 h2; subst h2
    have hnp : ∀ k ∈ ti.cells, k ≠ .ptr ∧ k ≠ .map := by
      have key : ∀ l : List KT, anySlice l = false → ∀ k ∈ l, k ≠ .ptr ∧ k ≠ .map := by
        intro l
        induction l with
        | nil => intro _ k h; cases h
        | cons q r ih =>
          intro h k hk
          cases q with
          | slice e => cases h
          | ptr => cases h
          | map => cases h
          | _ =>
            rcases List.mem_cons.1 hk with rfl | hk
            · exact ⟨fun e => (by cases e), fun e => (by cases e)⟩
            · exact ih h k hk
      exact key _ hany
    obtain ⟨i, z, hinfo, hz, hcr⟩ := zero_rep (M := M) hT ht hnp
    obtain ⟨cells', hfill, hcr'⟩ := fill_sound hT hev ht fs hfs hall (fun j => pl[j]?) hpl2 ps.toList _ _ _ hcr hcs
    refine ⟨.agg cells', execOp_value (s := Instr.build u (ps.map fun (i, x) => (i, a.eval x))) (by simp [execOp, ho]) ?_, ?_⟩
    · have hz2 : (zeroValue u).run P w = .ok z w := by simp [zeroValue, run_info hinfo, hz]
      have e : (ps.map fun (i, x) => (i, a.eval x)).toList = ps.toList.map fun (i, x) => (i, a.eval x) := by simp
      simp only [Instr.build, Sem.run_bind, hz2, Result.andThen_ok, run_underlying hun, hpl, e, hfill, Sem.run_pure]
    · obtain ⟨q1, q2, q3⟩ := hcr'
      show Rep E.tt M ti.kt (.agg cells') (.agg cs)
      rw [hk]
      have := Rep.agg u ti cells'.toList cs ht hk (by simpa using q1) q2 (M := M) (fun i h1 h2 h3 => q3 i _ _ _ (List.getElem?_eq_getElem h1) (by rw [← Array.getElem?_toList]; exact List.getElem?_eq_getElem h2) (List.getElem?_eq_getElem h3))
      simpa using this
  · cases h

end
end Go.Proofs.YtcmeincdmphaoaaDoor.DS

namespace Go.Proofs.YtcmeincdmphaoaaDoor.DS
open Go.RowKit

section
variable {P : Program} {E : Env} (hT : TTok P E.tt) {draw : Bool} {st : St} {ops : List Oper} {L : List (Nat × Bool)} {a : Act} {w : World} {ι : Nat → Value} {M : Mem}
  (hev : ∀ x s, ev st ops L x = some s → SVRel E.tt ι M s (a.eval x))
  (hevp : ∀ tc b x s, a.eval (.tmp tc) = .bool b → evPick st ops L tc b x = some s → SVRel E.tt ι M s (a.eval x))
  (hobj : ∀ id o, st.objs id = some o → ObjRel E.tt ι M w id o)
  (hmem : ∀ ad v, M ad = some v → w.cell? ad = some v)

theorem gives_pure {o : Oper} {v : SV} {u : Value} (h : execOp a.eval o = pure (.value u)) (hr : SVRel E.tt ι M v u) : Gives P E.tt ι M a w o v :=
  ⟨u, by rw [h]; simp, hr⟩

include hT hev in
theorem move_sound {o : Oper} {x : Operand} {t : TypeId} (ho : execOp a.eval o = pure (.value (a.eval x))) {c : Bool} {v : SV} (h : moveO E st ops L x t = some (.sv c v)) : Gives P E.tt ι M a w o v ∧ c = true := by
  unfold moveO at h
  split at h
  · rename_i cs
    replace h := opt_some.1 h
    obtain ⟨ti, ht, h⟩ := h
    split at h
    · rename_i u hk
      replace h := opt_some.1 h
      obtain ⟨ds, hds, h⟩ := h
      injection h with h; injection h with h1 h2; subst h1 h2
      refine ⟨gives_pure ho ?_, rfl⟩
      have e := (hT t ti ht).agg_self hk
      subst e
      have key : ∀ (ks : List KT) (vs : List Value) (ds : List D), constAgg ks vs = some ds → vs.length = ks.length ∧ ds.length = ks.length ∧ ∀ i (h1 : i < ks.length) (h2 : i < vs.length) (h3 : i < ds.length), Rep E.tt M ks[i] vs[i] ds[i] := by
        intro ks
        induction ks with
        | nil => intro vs ds h; cases vs with
          | nil => simp [constAgg] at h; subst h; exact ⟨rfl, rfl, fun i h1 => absurd h1 (by simp)⟩
          | cons => simp [constAgg] at h
        | cons k ks ih => intro vs ds h; cases vs with
          | nil => simp [constAgg] at h
          | cons v vs =>
            simp only [constAgg] at h
            replace h := opt_some.1 h
            obtain ⟨s, hs, h⟩ := h
            replace h := opt_some.1 h
            obtain ⟨d, hd, h⟩ := h
            replace h := opt_some.1 h
            obtain ⟨r, hr, h⟩ := h
            injection h with h; subst h
            obtain ⟨i1, i2, i3⟩ := ih vs r hr
            refine ⟨by simp [i1], by simp [i2], ?_⟩
            intro i h1 h2 h3
            cases i with
            | zero => exact svD_rel (ι := ι) hd (SVRel.of0 (const_rel hs))
            | succ i => simpa using i3 i (by simpa using h1) (by simpa using h2) (by simpa using h3)
      obtain ⟨k1, k2, k3⟩ := key _ _ _ hds
      show Rep E.tt M ti.kt (.agg cs) (.agg ds)
      rw [hk]
      have := Rep.agg u ti cs.toList ds ht hk k1 k2 (M := M) k3
      simpa using this
    · cases h
  · replace h := opt_some.1 h
    obtain ⟨s, hs, h⟩ := h
    injection h with h; injection h with h1 h2; subst h1 h2
    exact ⟨gives_pure ho (hev x s hs), rfl⟩

theorem pickD_rep {tt : TT} {k : KT} {b : Bool} {da db : D} {va vb : Value} (ha : b = true → Rep tt M k va da) (hb : b = false → Rep tt M k vb db) : Rep tt M k (if b then va else vb) (pickD k b da db) := by
  cases b with
  | true =>
    have h := ha rfl
    have : pickD k true da db = canon k da := by cases k <;> rfl
    rw [this, h.canon]; exact h
  | false =>
    have h := hb rfl
    have : pickD k false da db = canon k db := by cases k <;> rfl
    rw [this, h.canon]; exact h

include hev hevp in
theorem pick_sound {o : Oper} {x y z : Operand} (ho : o.op = .pick x y z) {c : Bool} {v : SV} (h : pickO st ops L x y z = some (.sv c v)) : Gives P E.tt ι M a w o v ∧ c = true := by
  unfold pickO at h
  replace h := opt_some.1 h
  obtain ⟨tc, htc, h⟩ := h
  replace h := opt_some.1 h
  obtain ⟨sc, hsc, h⟩ := h
  have hrc := hev x sc hsc
  cases x with
  | tmp t =>
    simp only [opdTmp, Option.some.injEq] at htc
    subst htc
    split at h
    · rename_i dc
      obtain ⟨hb, hd⟩ := Rep.inv_bool hrc
      split at h
      · rename_i ka da kb db hya hzb
        replace h := cond_some.1 h
        obtain ⟨he, h⟩ := h
        have he := KT.eq_iff.1 he
        subst he
        have hy : dc.toBool = true → Rep E.tt M ka (a.eval y) da := fun h1 => hevp t true y _ (by rw [hb, h1]) hya
        have hz : dc.toBool = false → Rep E.tt M ka (a.eval z) db := fun h1 => hevp t false z _ (by rw [hb, h1]) hzb
        have hrun : (execOp a.eval o).run P w = .ok (.value (if dc.toBool then a.eval y else a.eval z)) w := by
          simp [execOp, ho, asBool, hb]
        have hgen : Rep E.tt M ka (if dc.toBool then a.eval y else a.eval z) (pickD ka dc.toBool da db) := pickD_rep hy hz
        split at h
        · cases h1 : sameTmp t y with
          | true =>
            rw [h1] at h
            injection h with h; injection h with h2 h3; subst h2 h3
            refine ⟨⟨_, hrun, ?_⟩, rfl⟩
            have e : a.eval y = .bool dc.toBool := by
              cases y with
              | tmp t' => simp only [sameTmp] at h1; rw [beq_iff.1 h1]; exact hb
              | _ => simp [sameTmp] at h1
            show Rep E.tt M .bool _ (.bool (dc.toBool || db.toBool))
            cases hd2 : dc.toBool with
            | true => simp only [if_true]; rw [e, hd2]; exact .bool _
            | false =>
              simp only [Bool.false_or]
              obtain ⟨q1, q2⟩ := (hz hd2).inv_bool
              rw [if_neg (by simp), q1]; exact .bool _
          | false =>
            rw [h1] at h
            cases h2 : sameTmp t z with
            | true =>
              rw [h2] at h
              injection h with h; injection h with h2 h3; subst h2 h3
              refine ⟨⟨_, hrun, ?_⟩, rfl⟩
              have e : a.eval z = .bool dc.toBool := by
                cases z with
                | tmp t' => simp only [sameTmp] at h2; rw [beq_iff.1 h2]; exact hb
                | _ => simp [sameTmp] at h2
              show Rep E.tt M .bool _ (.bool (dc.toBool && da.toBool))
              cases hd2 : dc.toBool with
              | true =>
                simp only [if_true, Bool.true_and]
                obtain ⟨q1, q2⟩ := (hy hd2).inv_bool
                rw [q1]; exact .bool _
              | false => rw [if_neg (by simp), e, hd2]; exact .bool _
            | false =>
              rw [h2] at h
              injection h with h; injection h with h2 h3; subst h2 h3
              exact ⟨⟨_, hrun, hgen⟩, rfl⟩
        · injection h with h; injection h with h2 h3; subst h2 h3
          exact ⟨⟨_, hrun, hgen⟩, rfl⟩
      · cases h
    · cases h
  | _ => simp [opdTmp] at htc

include hT hev in
theorem fieldAddr_sound {o : Oper} {t : TypeId} {x : Operand} {f : Nat} (ho : o.op = .fieldAddr t x f) {c : Bool} {v : SV} (h : fieldAddrO E st ops L t x f = some (.sv c v)) : Gives P E.tt ι M a w o v ∧ c = true := by
  unfold fieldAddrO at h
  replace h := opt_some.1 h
  obtain ⟨ti, ht, h⟩ := h
  replace h := opt_some.1 h
  obtain ⟨ft, hft, h⟩ := h
  replace h := opt_some.1 h
  obtain ⟨fi, hfi, h⟩ := h
  replace h := cond_some.1 h
  obtain ⟨hn, h⟩ := h
  simp only [Bool.and_eq_true, Bool.not_eq_true'] at hn
  replace h := opt_some.1 h
  obtain ⟨s, hs, h⟩ := h
  have hsv := hev x s hs
  have hi := hT t ti ht
  have hu := hi.under
  have hpos : 0 < fi.cells.length := by cases hc : fi.cells with
    | nil => rw [hc] at hn; simp [isNilL] at hn
    | cons => simp
  have hagg : ∃ s, ti.kt = .agg s := by
    have := hn.2
    cases hk : ti.kt <;> rw [hk] at this <;> first | exact ⟨_, rfl⟩ | simp [isAggK] at this
  have hrunat : ∀ (b off : Nat), (Instr.fieldAt t (.pointer (some ⟨b, off, none⟩)) f).run P w = .ok (.pointer (some ⟨b, off + ft.1, none⟩)) w := by
    obtain ⟨s, hk⟩ := hagg
    intro b off
    rw [hk] at hu
    obtain ⟨rfl, fs, hun, hfs, _⟩ := hu
    rw [hfs, List.getElem?_map, Option.map_eq_some_iff] at hft
    obtain ⟨fl, hfl, rfl⟩ := hft
    rw [Array.getElem?_toList] at hfl
    obtain ⟨fI, hfI, hsz, _⟩ := (hT _ _ hfi).info
    simp only [Instr.fieldAt, Sem.run_bind, run_underlying hun, Result.andThen_ok, hfl, Instr.sureAddr, Sem.run_pure, fieldPlace, run_size hfI, hsz]
    rw [if_neg (by omega)]
    simp [add_spot]
  have hexec : execOp a.eval o = (do pure (.value (← Instr.fieldAt t (a.eval x) f))) := by simp [execOp, ho]
  cases s with
  | eptr k d =>
    replace h := cond_some.1 h
    obtain ⟨hk, h⟩ := h
    have hk := KT.eq_iff.1 hk
    injection h with h; injection h with h1 h2; subst h1 h2
    obtain ⟨ad, u, t', ti', hv, hsp, ht', hk', hr, hM⟩ := hsv
    have hka : KindAt E.tt t ft.1 fi.kt := by simpa using (KindAt.self hT ht).field hT ht hft hfi hagg
    obtain ⟨pv, hpr, hpc⟩ := part_rep hT ht (by rw [← hk]; exact hr) hka
    refine ⟨⟨.pointer (some ⟨ad.block, ad.off + ft.1, none⟩), execOp_value hexec ?_, ?_⟩, rfl⟩
    · rw [hv]
      have e : ad = ⟨ad.block, ad.off, none⟩ := by cases ad; simp_all
      rw [e]
      exact hrunat _ _
    · exact ⟨_, pv, ft.2, fi, rfl, rfl, hfi, rfl, hpr, fun j c hj => by simp only; rw [Nat.add_assoc]; exact hM _ _ (hpc j c hj)⟩
  | bptr id u off k =>
    replace h := cond_some.1 h
    obtain ⟨hk, h⟩ := h
    have hk := KT.eq_iff.1 hk
    injection h with h; injection h with h1 h2; subst h1 h2
    obtain ⟨hka, b, hι, hv⟩ := hsv
    rw [hk] at hka
    exact ⟨⟨_, execOp_value hexec (by rw [hv]; exact hrunat _ _), hka.field hT ht hft hfi hagg, b, hι, rfl⟩, rfl⟩
  | optr id e i off k =>
    replace h := cond_some.1 h
    obtain ⟨hk, h⟩ := h
    have hk := KT.eq_iff.1 hk
    injection h with h; injection h with h1 h2; subst h1 h2
    obtain ⟨hka, b, n, cap, ei, hei, hι, hi0, hin, hv⟩ := hsv
    rw [hk] at hka
    exact ⟨⟨_, execOp_value hexec (by rw [hv]; exact hrunat _ _), hka.field hT ht hft hfi hagg, b, n, cap, ei, hei, hι, hi0, hin, by rw [Nat.add_assoc]⟩, rfl⟩
  | _ => simp at h

include hT hev hobj in
theorem indexAddr_sound {o : Oper} {t : TypeId} {x y : Operand} (ho : o.op = .indexAddr t x y) {c : Bool} {v : SV} (h : indexAddrO E st ops L t x y = some (.sv c v)) (hc : c = true) : Gives P E.tt ι M a w o v := by
  subst hc
  unfold indexAddrO at h
  replace h := opt_some.1 h
  obtain ⟨ti, ht, h⟩ := h
  replace h := opt_some.1 h
  obtain ⟨s, hs, h⟩ := h
  replace h := opt_some.1 h
  obtain ⟨si, hsi, h⟩ := h
  have hi := hT t ti ht
  have hu := hi.under
  have hsv := hev x s hs
  have hiv := hev y si hsi
  have hexec : execOp a.eval o = (do pure (.value (← Instr.indexAt t (a.eval x) (a.eval y)))) := by simp [execOp, ho]
  split at h
  · rename_i e e' d q di hk
    rw [hk] at hu
    replace h := cond_some.1 h
    obtain ⟨he, h⟩ := h
    have he := beq_iff.1 he
    subst he
    replace h := opt_some.1 h
    obtain ⟨ei, hei, h⟩ := h
    injection h with h; injection h with h1 h2; subst h2
    obtain ⟨hb, _, _⟩ := Rep.inv_int hiv
    obtain ⟨A, cap, hv, hd, hlc, hcap, hall⟩ := Rep.inv_slice hsv
    simp only [inb, Bool.and_eq_true, decide_eq_true_eq] at h1
    obtain ⟨ei', ad, vs, rfl, hei', hsp, hz, hM, hr⟩ := hall (by omega)
    rw [hei] at hei'; cases hei'
    have hlt : di.toInt.toNat < d.toList.length := by omega
    obtain ⟨eI, heI, hsz, _⟩ := (hT _ _ hei).info
    refine ⟨.pointer (some ⟨ad.block, ad.off + di.toInt.toNat * ei.cells.length, none⟩), execOp_value hexec ?_, ?_⟩
    · rw [hv, hb]
      simp only [Instr.indexAt, asIntOf, Sem.run_bind, Sem.run_pure, Result.andThen_ok, run_underlying hu.1, Sem.run_ite]
      rw [if_pos ⟨h1.1, by exact_mod_cast h1.2⟩]
      simp [run_size heI, hsz, add_spot _ hsp]
    · refine ⟨_, vs di.toInt.toNat, e, ei, rfl, rfl, hei, rfl, ?_, ?_⟩
      · have : d.toList.getD di.toInt.toNat .no = d.toList[di.toInt.toNat] := by simp [List.getD_eq_getElem?_getD, List.getElem?_eq_getElem hlt]
        rw [this]; exact hr _ hlt
      · intro j c hj
        simp only
        rw [Nat.add_assoc]
        exact hM _ _ _ hlt hj
  · rename_i e id q di hk
    rw [hk] at hu
    cases hob : st.objs id with
    | none => rw [hob] at h; cases h
    | some ob =>
      rw [hob] at h
      have hor := hobj id ob hob
      cases ob with
      | map _ _ => cases h
      | box u' bc => cases h
      | arr e' es =>
        replace h := cond_some.1 h
        obtain ⟨he, h⟩ := h
        have he := beq_iff.1 he
        subst he
        replace h := opt_some.1 h
        obtain ⟨ei, hei, h⟩ := h
        injection h with h; injection h with h1 h2; subst h2
        obtain ⟨hb, _, _⟩ := Rep.inv_int hiv
        simp only [inb, Bool.and_eq_true, decide_eq_true_eq] at h1
        obtain ⟨ei', hei', hpos, harr⟩ := hor
        rw [hei] at hei'; cases hei'
        have hv : a.eval x = ι id := hsv.1
        rcases harr with ⟨_, he0⟩ | ⟨b, cap, cur, tt', fr, vs, hι, hheap, hlen, hcap, hcur, hfr, hall⟩
        · subst he0; simp at h1; omega
        · obtain ⟨eI, heI, hsz, _⟩ := (hT _ _ hei).info
          refine ⟨.pointer (some ⟨b, di.toInt.toNat * ei.cells.length, none⟩), execOp_value hexec ?_, ?_⟩
          · rw [hv, hι, hb]
            simp only [Instr.indexAt, asIntOf, Sem.run_bind, Sem.run_pure, Result.andThen_ok, run_underlying hu.1, Sem.run_ite]
            rw [if_pos ⟨h1.1, by exact_mod_cast h1.2⟩]
            simp [run_size heI, hsz, add_spot]
          · exact ⟨KindAt.self hT hei, b, es.length, cap, ei, hei, hι, h1.1, h1.2, rfl⟩
  · cases h

include hT hev in
theorem index_sound {o : Oper} {t : TypeId} {x y : Operand} (ho : o.op = .index t x y) {c : Bool} {v : SV} (h : indexO E st ops L t x y = some (.sv c v)) (hc : c = true) : Gives P E.tt ι M a w o v := by
  subst hc
  unfold indexO at h
  replace h := opt_some.1 h
  obtain ⟨ti, ht, h⟩ := h
  replace h := opt_some.1 h
  obtain ⟨s, hs, h⟩ := h
  replace h := opt_some.1 h
  obtain ⟨si, hsi, h⟩ := h
  have hu := (hT t ti ht).under
  have hsv := hev x s hs
  have hiv := hev y si hsi
  have hexec : execOp a.eval o = (do pure (.value (← Instr.index t (a.eval x) (a.eval y)))) := by simp [execOp, ho]
  split at h
  · rename_i d q di hk
    rw [hk] at hu
    injection h with h; injection h with h1 h2; subst h2
    obtain ⟨hb, _, _⟩ := Rep.inv_int hiv
    obtain ⟨s, hv, hd, hsz⟩ := Rep.inv_str hsv
    subst hd
    simp only [inb, Bool.and_eq_true, decide_eq_true_eq, D.toStr, Array.length_toList] at h1
    have h11 : di.toInt < (s.data.size : Int) := of_decide_eq_true h1.2
    have hlt : di.toInt.toNat < s.size := by have : s.data.size = s.size := rfl; have := h1.1; omega
    refine ⟨.int .u8 ((s[di.toInt.toNat]'hlt).toNat : Int), execOp_value hexec ?_, ?_⟩
    · rw [hv, hb]
      simp only [Instr.index, asIntOf, Sem.run_bind, Sem.run_pure, Result.andThen_ok, run_underlying hu.1]
      rw [if_pos h1.1]
      simp [hlt]
    · have e : (D.str s.data.toList).toStr.getD di.toInt.toNat 0 = s[di.toInt.toNat]'hlt := by
        simp only [D.toStr, List.getD_eq_getElem?_getD, Array.getElem?_toList]
        rw [Array.getElem?_eq_getElem hlt]; rfl
      rw [e]
      refine .int _ _ ?_
      have := (s[di.toInt.toNat]'hlt).toNat_lt
      simp only [Lit.wf, IntKind.min, IntKind.max, IntKind.signed, IntKind.bits, Bool.and_eq_true, decide_eq_true_eq]
      simp
      omega
  · cases h

include hT hev hobj in
theorem len_sound {o : Oper} {cl : Call} {t : TypeId} {x : Operand} (ho : o.op = .call cl) (hcl : cl.callee = .builtin .len) (hx : cl.args.toList = [x]) (ht' : cl.argTypes.toList = [t]) {c : Bool} {v : SV} (h : lenO E st ops L t x = some (.sv c v)) : Gives P E.tt ι M a w o v ∧ c = true := by
  unfold lenO at h
  replace h := opt_some.1 h
  obtain ⟨ti, ht, h⟩ := h
  replace h := opt_some.1 h
  obtain ⟨s, hs, h⟩ := h
  have hu := (hT t ti ht).under
  have hsv := hev x s hs
  have hx' : cl.args = #[x] := by rw [← Array.toList_inj]; exact hx
  have ht'' : cl.argTypes = #[t] := by rw [← Array.toList_inj]; exact ht'
  have hexec : ∀ n : Nat, (Builtin.len_ #[t] o.type #[a.eval x]).run P w = .ok (.int .i64 (n : Int)) w → (execOp a.eval o).run P w = .ok (.value (.int .i64 (n : Int))) w := by
    intro n hn
    simp [execOp, ho, resolve, hcl, invoke, builtin, hx', ht'', hn]
  have hwf : ∀ n : Nat, n ≤ maxLen → (Lit.int .i64 (n : Int)).wf = true := by
    intro n hn
    simp only [Lit.wf, IntKind.min, IntKind.max, IntKind.signed, IntKind.bits, Bool.and_eq_true, decide_eq_true_eq]
    unfold maxLen at hn
    simp; omega
  split at h
  · rename_i d hk
    rw [hk] at hu
    injection h with h; injection h with h1 h2; subst h1 h2
    obtain ⟨s, hv, hd, hsz⟩ := Rep.inv_str hsv
    subst hd
    have e : (D.str s.data.toList).toStr.length = s.size := by simp only [D.toStr, Array.length_toList]; rfl
    rw [e]
    exact ⟨⟨_, hexec _ (by rw [hv]; simp [Builtin.len_, run_underlying hu.1, goInt]), .int _ _ (hwf _ hsz)⟩, rfl⟩
  · rename_i e e' d hk
    rw [hk] at hu
    injection h with h; injection h with h1 h2; subst h1 h2
    obtain ⟨A, cap, hv, hd, hlc, hcap, _⟩ := Rep.inv_slice hsv
    exact ⟨⟨_, hexec _ (by rw [hv]; simp [Builtin.len_, run_underlying hu.1, goInt]), .int _ _ (hwf _ (by omega))⟩, rfl⟩
  · rename_i e hk
    rw [hk] at hu
    injection h with h; injection h with h1 h2; subst h1 h2
    have hv : a.eval x = .slice none 0 0 := hsv
    exact ⟨⟨_, hexec 0 (by rw [hv]; simp [Builtin.len_, run_underlying hu.1, goInt]), .int _ _ (hwf 0 (by omega))⟩, rfl⟩
  · rename_i e id hk
    rw [hk] at hu
    cases hob : st.objs id with
    | none => rw [hob] at h; cases h
    | some ob =>
      rw [hob] at h
      have hor := hobj id ob hob
      cases ob with
      | map _ _ => cases h
      | box u' bc => cases h
      | arr e' es =>
        injection h with h; injection h with h1 h2; subst h1 h2
        obtain ⟨ei, hei, hpos, harr⟩ := hor
        have hv : a.eval x = ι id := hsv.1
        rcases harr with ⟨hι, he0⟩ | ⟨b, cap, cur, tt', fr, vs, hι, hheap, hlen, hcap, hcur, hfr, hall⟩
        · subst he0
          exact ⟨⟨_, hexec 0 (by rw [hv, hι]; simp [Builtin.len_, run_underlying hu.1, goInt]), .int _ _ (hwf 0 (by omega))⟩, rfl⟩
        · exact ⟨⟨_, hexec es.length (by rw [hv, hι]; simp [Builtin.len_, run_underlying hu.1, goInt]), .int _ _ (hwf _ (by omega))⟩, rfl⟩
  · cases h

include hT hev in
theorem field_sound {o : Oper} {t : TypeId} {x : Operand} {f : Nat} (ho : o.op = .field t x f) {c : Bool} {v : SV} (h : fieldO E st ops L t x f = some (.sv c v)) : Gives P E.tt ι M a w o v := by
  unfold fieldO at h
  obtain ⟨ti, ht, h⟩ := opt_some.1 h
  obtain ⟨ft, hft, h⟩ := opt_some.1 h
  obtain ⟨fi, hfi, h⟩ := opt_some.1 h
  obtain ⟨hn, h⟩ := cond_some.1 h
  simp only [Bool.and_eq_true, Bool.not_eq_true'] at hn
  obtain ⟨s, hs, h⟩ := opt_some.1 h
  have hsv := hev x s hs
  have hu := (hT t ti ht).under
  have hpos : 0 < fi.cells.length := by cases hc : fi.cells with
    | nil => rw [hc] at hn; simp [isNilL] at hn
    | cons => simp
  have hagg : ∃ s, ti.kt = .agg s := by
    have := hn.2
    cases hk : ti.kt <;> rw [hk] at this <;> first | exact ⟨_, rfl⟩ | simp [isAggK] at this
  cases s with
  | val k d =>
    replace h := cond_some.1 h
    obtain ⟨hk, h⟩ := h
    have hk := KT.eq_iff.1 hk
    injection h with h; injection h with h1 h2; subst h1 h2
    have hr : Rep E.tt M ti.kt (a.eval x) d := by rw [← hk]; exact hsv
    have hka : KindAt E.tt t ft.1 fi.kt := by simpa using (KindAt.self hT ht).field hT ht hft hfi hagg
    obtain ⟨pv, hpr, hpc⟩ := part_rep hT ht hr hka
    have hfs := hpr.kt_cells hT hfi
    refine ⟨pv, execOp_value (s := Instr.field t (a.eval x) f) (by simp [execOp, ho]) ?_, hpr⟩
    obtain ⟨s, hks⟩ := hagg
    rw [hks] at hu hr
    obtain ⟨rfl, fs, hun, hfl, _⟩ := hu
    rw [hfl, List.getElem?_map, Option.map_eq_some_iff] at hft
    obtain ⟨fl, hfl2, rfl⟩ := hft
    rw [Array.getElem?_toList] at hfl2
    obtain ⟨fI, hfI, hsz, _⟩ := (hT _ _ hfi).info
    obtain ⟨ti', cs, hv, _, _, _, _, _, _⟩ := Rep.inv_agg hr
    rw [hv] at hpc ⊢
    have hcs : (Value.agg cs.toArray).cells = cs.toArray := rfl
    rw [hcs] at hpc
    simp only [Instr.field, Sem.run_bind, run_underlying hun, Result.andThen_ok, hfl2, asAgg, Sem.run_pure, part, run_isAgg (hT _ _ hfi), run_size hfI, hsz]
    cases hsg : fi.kt.single with
    | true =>
      have h1 := (hpr.cells_single hsg).1
      have h2 := hpc 0 pv (by rw [h1]; rfl)
      rw [Nat.add_zero] at h2
      simp [h2]
    | false =>
      cases hkf : fi.kt with
      | agg s2 =>
        rw [hkf] at hpr
        obtain ⟨ti2, cs2, hpv, _, ht2, _, hl2, _, _⟩ := Rep.inv_agg hpr
        have e2 := (hT _ _ hfi).agg_self hkf
        subst e2
        rw [hfi] at ht2; injection ht2 with ht2; subst ht2
        subst hpv
        have hpc2 : ∀ j c, cs2.toArray[j]? = some c → cs.toArray[fl.offset + j]? = some c := fun j c hj => hpc j c hj
        have e : cs.toArray.extract fl.offset (fl.offset + fi.cells.length) = cs2.toArray := by
          apply Array.ext_getElem?
          intro j
          by_cases hj : j < cs2.length
          · have hx := List.getElem?_eq_getElem hj
            have hy := hpc2 j cs2[j] (by rw [List.getElem?_toArray]; exact hx)
            rw [Array.getElem?_extract]
            simp only [List.getElem?_toArray] at hy ⊢
            rw [hx]
            have : fl.offset + j < cs.length := by
              refine Classical.byContradiction fun hn => ?_
              rw [List.getElem?_eq_none (by omega)] at hy; cases hy
            rw [if_pos (by simp; omega), hy]
          · rw [Array.getElem?_extract, if_neg (by simp; omega), List.getElem?_toArray, List.getElem?_eq_none (by omega)]
        simp only [Bool.not_false, if_true, Sem.run_bind, run_size (show P.info? fl.type = some fI from hfI), Result.andThen_ok, hsz, Sem.run_pure, e]
      | _ => rw [hkf] at hsg; simp [KT.single] at hsg
  | _ => cases h
theorem fieldO_ob {t : TypeId} {x : Operand} {f : Nat} {c : Bool} {id : Nat} {ob : Obj} {scr : Bool} {v : SV} (h : fieldO E st ops L t x f = some (.ob c id ob scr v)) : False := by
  unfold fieldO at h
  obtain ⟨ti, ht, h⟩ := opt_some.1 h
  obtain ⟨ft, hft, h⟩ := opt_some.1 h
  obtain ⟨fi, hfi, h⟩ := opt_some.1 h
  obtain ⟨hn, h⟩ := cond_some.1 h
  obtain ⟨s, hs, h⟩ := opt_some.1 h
  split at h
  · have := (cond_some.1 h).2; cases this
  · cases h

end
end Go.Proofs.YtcmeincdmphaoaaDoor.DS

namespace Go.Proofs.YtcmeincdmphaoaaDoor.DS
open Go.RowKit Go.MapKept Go.ChangeMaps

/-- Keys of plain kinds. -/
theorem key_desc {P : Program} {tt : TT} (hT : TTok P tt) {k : TypeId} {ki : TI} (hk : lk k tt = some ki) (hp : plainK ki.kt = true) : ∃ d, P.underlying k = some d ∧ ∀ (M : Mem) (v : Value) (x : D), Rep tt M ki.kt v x → IsKey d v := by
  have hu := (hT k ki hk).under
  cases hq : ki.kt with
  | bool => rw [hq] at hu; refine ⟨_, hu.1, fun M v x h => ?_⟩; obtain ⟨rfl, _⟩ := Rep.inv_bool h; simp [IsKey]
  | int q => rw [hq] at hu; refine ⟨_, hu.1, fun M v x h => ?_⟩; obtain ⟨rfl, _⟩ := Rep.inv_int h; simp [IsKey]
  | str => rw [hq] at hu; refine ⟨_, hu.1, fun M v x h => ?_⟩; obtain ⟨s, rfl, _⟩ := Rep.inv_str h; simp [IsKey]
  | _ => rw [hq] at hp; cases hp
theorem key_eq {tt : TT} {M : Mem} {k : KT} (hp : plainK k = true) {v u : Value} {x y : D} (h1 : Rep tt M k v x) (h2 : Rep tt M k u y) : eqD k x y = true ↔ v = u := by
  cases k with
  | bool =>
    obtain ⟨e1, _⟩ := Rep.inv_bool h1
    obtain ⟨e2, _⟩ := Rep.inv_bool h2
    rw [e1, e2]
    simp [eqD]
  | int q =>
    obtain ⟨e1, _⟩ := Rep.inv_int h1
    obtain ⟨e2, _⟩ := Rep.inv_int h2
    rw [e1, e2]
    simp [eqD]
  | str =>
    obtain ⟨s, e1, e2, _⟩ := Rep.inv_str h1
    obtain ⟨t, e3, e4, _⟩ := Rep.inv_str h2
    subst e1 e2 e3 e4
    simp only [eqD, D.toStr, decide_eq_true_eq]
    constructor
    · intro h
      congr 1
      cases s; cases t
      simpa using h
    · intro h
      injection h with h
      subst h; exact decide_eq_true rfl
  | _ => cases hp
/-- Looking for a key, in memory and in data. -/
theorem find_spec {tt : TT} {M : Mem} {ki ei : TI} {d : TypeDesc} (hp : plainK ki.kt = true) (hd : ∀ (v : Value) (x : D), Rep tt M ki.kt v x → IsKey d v) {key : Value} {kd : D} (hk : Rep tt M ki.kt key kd) :
    ∀ (l : List MapEntry) (kvs : List (D × D)) (i : Nat), MapRel tt M ki ei l kvs →
    (Instr.findNow d key l i = some none ∧ findKV ki.kt kd kvs = none ∧ ∀ (val : Value) (vd : D) (x : MapEntry), Rep tt M ei.kt val vd → x.key = key → x.val = val → MapRel tt M ki ei (l ++ [x]) (putKV ki.kt kd vd kvs)) ∨
    ∃ j e v, Instr.findNow d key l i = some (some (i + j, e.val)) ∧ l[j]? = some e ∧ e.key = key ∧ findKV ki.kt kd kvs = some v ∧ Rep tt M ei.kt e.val v ∧
      ∀ (val : Value) (vd : D) (f : MapEntry → MapEntry), Rep tt M ei.kt val vd → (∀ x, (f x).val = val) → (f e).key = key → MapRel tt M ki ei (l.modify j f) (putKV ki.kt kd vd kvs) := by
  intro l
  induction l with
  | nil =>
    intro kvs i h
    cases kvs with
    | cons _ _ => cases h
    | nil =>
      refine .inl ⟨rfl, rfl, fun val vd x hv h1 h2 => ?_⟩
      exact ⟨⟨by rw [h1]; exact hk, by rw [h2]; exact hv⟩, trivial⟩
  | cons e0 r ih =>
    intro kvs i h
    cases kvs with
    | nil => cases h
    | cons p q =>
      obtain ⟨pa, pb⟩ := p
      obtain ⟨⟨h1, h2⟩, h3⟩ := h
      obtain ⟨b, hb, hiff⟩ := sameNow_of_keys (hd _ _ hk) (hd _ _ h1)
      have heq := key_eq hp hk h1
      cases b with
      | true =>
        have hke : key = e0.key := hiff.1 rfl
        have hD : eqD ki.kt kd pa = true := heq.2 hke
        refine .inr ⟨0, e0, pb, by simp [Instr.findNow, hb], rfl, hke.symm, by simp [findKV, hD], h2, fun val vd f hv hf hfk => ?_⟩
        simp only [putKV, hD, cond_true, List.modify_zero_cons]
        exact ⟨⟨by rw [hfk, hke]; exact h1, by rw [hf]; exact hv⟩, h3⟩
      | false =>
        have hne : key ≠ e0.key := fun e => by have := hiff.2 e; cases this
        have hD : eqD ki.kt kd pa = false := by
          cases hx : eqD ki.kt kd pa with
          | false => rfl
          | true => exact absurd (heq.1 hx) hne
        rcases ih q (i + 1) h3 with ⟨g1, g2, g3⟩ | ⟨j, e, v, g1, g2, g3, g4, g5, g6⟩
        · refine .inl ⟨by simp [Instr.findNow, hb, g1], by simp [findKV, hD, g2], fun val vd x hv hx1 hx2 => ?_⟩
          simp only [putKV, hD, cond_false, List.cons_append]
          exact ⟨⟨h1, h2⟩, g3 val vd x hv hx1 hx2⟩
        · refine .inr ⟨j + 1, e, v, by simp [Instr.findNow, hb, g1]; omega, by simpa using g2, g3, by simp [findKV, hD, g4], g5, fun val vd f hv hf hfk => ?_⟩
          simp only [putKV, hD, cond_false, List.modify_succ_cons]
          exact ⟨⟨h1, h2⟩, g6 val vd f hv hf hfk⟩
theorem MapRel.mono {tt : TT} {M M' : Mem} {ki ei : TI} (hM : ∀ ad v, M ad = some v → M' ad = some v) : ∀ {l : List MapEntry} {kvs : List (D × D)}, MapRel tt M ki ei l kvs → MapRel tt M' ki ei l kvs := by
  intro l
  induction l with
  | nil => intro kvs h; cases kvs with
    | nil => trivial
    | cons _ _ => cases h
  | cons e r ih =>
    intro kvs h
    cases kvs with
    | nil => cases h
    | cons p q =>
      obtain ⟨⟨h1, h2⟩, h3⟩ := h
      exact ⟨⟨h1.mono hM, h2.mono hM⟩, ih h3⟩
theorem noPM_mem : ∀ {l : List KT}, noPM l = true → ∀ k ∈ l, k ≠ .ptr ∧ k ≠ .map := by
  intro l
  induction l with
  | nil => intro _ k h; cases h
  | cons q r ih =>
    intro h k hk
    cases q with
    | ptr => cases h
    | map => cases h
    | _ =>
      rcases List.mem_cons.1 hk with rfl | hk
      · exact ⟨fun e => (by cases e), fun e => (by cases e)⟩
      · exact ih h k hk

section
variable {P : Program} {E : Env} (hT : TTok P E.tt) {draw : Bool} {st : St} {ops : List Oper} {L : List (Nat × Bool)} {a : Act} {w : World} {ι : Nat → Value} {M : Mem}
  (hev : ∀ x s, ev st ops L x = some s → SVRel E.tt ι M s (a.eval x)) (hobj : ∀ id o, st.objs id = some o → ObjRel E.tt ι M w id o)

include hT in
theorem zeroE_rep {e : TypeId} {ei : TI} (he : lk e E.tt = some ei) (hn : noPM ei.cells = true) : ∃ z, (∀ w : World, (zeroValue e).run P w = .ok z w) ∧ Rep E.tt M ei.kt z (zeroE ei) := by
  obtain ⟨i, z, h1, h2, hcr⟩ := zero_rep (M := M) hT he (noPM_mem hn)
  obtain ⟨i', z', h1', h2', hsz, hagg, hsg, _⟩ := (hT e ei he).zero
  rw [h1] at h1'; cases h1'
  rw [h2] at h2'; cases h2'
  obtain ⟨c1, c2, c3⟩ := hcr
  refine ⟨z, fun w => by simp [zeroValue, run_info h1, h2], ?_⟩
  cases hk : ei.kt with
  | agg u =>
    have e1 := (hT e ei he).agg_self hk
    subst e1
    obtain ⟨cs, rfl⟩ := hagg (by rw [hk]; rfl)
    unfold zeroE
    rw [hk]
    have := Rep.agg (tt := E.tt) (M := M) u ei cs.toList (ei.cells.map zeroD) he hk (by simpa [Value.cells] using c1) c2 (fun j g1 g2 g3 => c3 j _ _ _ (List.getElem?_eq_getElem g1) (by simp [Value.cells]) (List.getElem?_eq_getElem g3))
    simpa using this
  | _ =>
    all_goals
      have hcell := (hT e ei he).cells_of_single (by rw [hk]; rfl)
      have hz := hsg (by rw [hk]; rfl)
      have := c3 0 ei.kt z (zeroD ei.kt) (by rw [hcell]; rfl) (by rw [hz]; rfl) (by rw [hcell]; rfl)
      rw [hk] at this
      unfold zeroE
      rw [hk]
      exact this
theorem mapUpdateO_sv {t : TypeId} {m x y : Operand} {c : Bool} {v : SV} (h : mapUpdateO E st ops L t m x y = some (.sv c v)) : False := by
  unfold mapUpdateO at h
  obtain ⟨ti, _, h⟩ := opt_some.1 h
  split at h
  · obtain ⟨ki, _, h⟩ := opt_some.1 h
    obtain ⟨ei, _, h⟩ := opt_some.1 h
    obtain ⟨sm, _, h⟩ := opt_some.1 h
    obtain ⟨sx, _, h⟩ := opt_some.1 h
    obtain ⟨d, _, h⟩ := opt_some.1 h
    obtain ⟨sy, _, h⟩ := opt_some.1 h
    obtain ⟨v, _, h⟩ := opt_some.1 h
    split at h
    · split at h
      · have := (cond_some.1 h).2; cases this
      · cases h
    · cases h
  · cases h
theorem lookupO_ob {t : TypeId} {m x : Operand} {ok : Bool} {c : Bool} {id : Nat} {ob : Obj} {scr : Bool} {v : SV} (h : lookupO E st ops L t m x ok = some (.ob c id ob scr v)) : False := by
  unfold lookupO at h
  obtain ⟨ti, _, h⟩ := opt_some.1 h
  split at h
  · obtain ⟨ki, _, h⟩ := opt_some.1 h
    obtain ⟨ei, _, h⟩ := opt_some.1 h
    obtain ⟨sm, _, h⟩ := opt_some.1 h
    obtain ⟨sx, _, h⟩ := opt_some.1 h
    obtain ⟨d, _, h⟩ := opt_some.1 h
    split at h
    · split at h
      · have := (cond_some.1 h).2; cases this
      · cases h
    · cases h
  · cases h
theorem lookupO_refs {t : TypeId} {m x : Operand} {ok : Bool} {c : Bool} {v : SV} (h : lookupO E st ops L t m x ok = some (.sv c v)) : refsOf v = [] := by
  unfold lookupO at h
  obtain ⟨ti, _, h⟩ := opt_some.1 h
  split at h
  · obtain ⟨ki, _, h⟩ := opt_some.1 h
    obtain ⟨ei, _, h⟩ := opt_some.1 h
    obtain ⟨sm, _, h⟩ := opt_some.1 h
    obtain ⟨sx, _, h⟩ := opt_some.1 h
    obtain ⟨d, _, h⟩ := opt_some.1 h
    split at h
    · split at h
      · obtain ⟨_, h5⟩ := cond_some.1 h
        simp only [Option.some.injEq, Out.sv.injEq] at h5
        obtain ⟨_, rfl⟩ := h5
        cases ok <;> rfl
      · cases h
    · cases h
  · cases h
include hT hev hobj in
/-- What a map's handle and a key give. -/
theorem map_at {t k e : TypeId} {ti ki ei : TI} {o1 o2 : Nat} (ht : lk t E.tt = some ti) (hf : ti.fields = [(o1, k), (o2, e)]) (hki : lk k E.tt = some ki) (hei : lk e E.tt = some ei) {m x : Operand} {id : Nat} {sx : SV} {d : D} {kvs : List (D × D)}
    (hm : ev st ops L m = some (.mp id)) (hx : ev st ops L x = some sx) (hd : svD ki.kt sx = some d) (hob : st.objs id = some (.map t kvs)) :
    ∃ b es clock dk, P.underlying t = some (.map k e) ∧ a.eval m = .map (some b) ∧ ι id = .map (some b) ∧ w.heap[b]? = some (.map es clock) ∧ plainK ki.kt = true ∧ noPM ei.cells = true ∧ ti.kt = .map ∧ ti.fields = [(0, k), (0, e)] ∧ P.underlying k = some dk ∧
      (∀ (v : Value) (x : D), Rep E.tt M ki.kt v x → IsKey dk v) ∧ Rep E.tt M ki.kt (a.eval x) d ∧ MapRel E.tt M ki ei es.toList kvs := by
  obtain ⟨ti', k', e', ki', ei', b, es, clock, ht', hkt, hf', hk', he', hp, hn, hι, hh, hmr⟩ := hobj id _ hob
  rw [ht] at ht'; cases ht'
  rw [hf] at hf'; injection hf' with q1 q2; injection q1 with q3 q4; injection q2 with q5 q6; injection q5 with q7 q8
  subst q3 q4 q7 q8
  rw [hki] at hk'; cases hk'
  rw [hei] at he'; cases he'
  obtain ⟨b', hb1, hb2⟩ := hev m _ hm
  rw [hι] at hb1; injection hb1 with hb1; injection hb1 with hb1; subst hb1
  have hun := (hT t ti ht).under
  rw [hkt] at hun
  obtain ⟨⟨k2, e2, hu, hf2⟩, _⟩ := hun
  rw [hf] at hf2; injection hf2 with q1 q2; injection q1 with q3 q4; injection q2 with q5 q6; injection q5 with q7 q8
  subst q4 q8
  obtain ⟨dk, hdk, hkey⟩ := key_desc hT hki hp
  exact ⟨b, es, clock, dk, hu, hb2, hι, hh, hp, hn, hkt, hf, hdk, hkey M, svD_rel hd (hev x _ hx), hmr⟩
include hT hev hobj in
theorem lookup_sound {o : Oper} {t : TypeId} {m x : Operand} {ok : Bool} (ho : o.op = .lookup t m x ok) {c : Bool} {v : SV} (h : lookupO E st ops L t m x ok = some (.sv c v)) : Gives P E.tt ι M a w o v := by
  unfold lookupO at h
  obtain ⟨ti, ht, h⟩ := opt_some.1 h
  split at h
  · rename_i o1 k o2 e hf
    obtain ⟨ki, hki, h⟩ := opt_some.1 h
    obtain ⟨ei, hei, h⟩ := opt_some.1 h
    obtain ⟨sm, hsm, h⟩ := opt_some.1 h
    obtain ⟨sx, hsx, h⟩ := opt_some.1 h
    obtain ⟨d, hd, h⟩ := opt_some.1 h
    split at h
    · rename_i id
      split at h
      · rename_i t' kvs hob
        obtain ⟨htt, h5⟩ := cond_some.1 h
        clear h
        have htt := beq_iff.1 htt
        subst htt
        simp only [Option.some.injEq, Out.sv.injEq] at h5
        obtain ⟨_, rfl⟩ := h5
        obtain ⟨b, es, clock, dk, hu, hem, hι, hh, hp, hn, _, _, hdk, hkey, hrx, hmr⟩ := map_at hT hev hobj ht hf hki hei hsm hsx hd hob
        obtain ⟨z, hz, hzr⟩ := zeroE_rep (M := M) hT hei hn
        have hck := run_checkKey (w := w) hdk (hkey _ _ hrx) es.isEmpty 9999
        have fin : ∀ (u : Value) (dv : D) (bb : Bool), (Instr.lookup t (a.eval m) (a.eval x) ok).run P w = .ok (if ok then .tuple #[u, .bool bb] else u) w → Rep E.tt M ei.kt u dv →
            Gives P E.tt ι M a w o (cond ok (.tup [.val ei.kt dv, .val .bool (.bool bb)]) (.val ei.kt dv)) := by
          intro u dv bb hrun hr
          refine ⟨_, execOp_value (s := Instr.lookup t (a.eval m) (a.eval x) ok) (by simp [execOp, ho]) hrun, ?_⟩
          cases ok with
          | false => exact hr
          | true =>
            refine ⟨[u, .bool bb], rfl, rfl, fun i s x hs hx => ?_⟩
            match i, hs, hx with
            | 0, hs, hx => simp at hs hx; subst hs hx; exact hr
            | 1, hs, hx => simp at hs hx; subst hs hx; exact Rep.bool bb
            | i + 2, hs, _ => simp at hs
        rcases find_spec hp hkey hrx es.toList kvs 0 hmr with ⟨g1, g2, _⟩ | ⟨j, e0, v0, g1, g2, g3, g4, g5, _⟩
        · rw [g2]
          have hfk := run_findKey (w := w) hdk g1
          refine fin z (zeroE ei) false ?_ hzr
          rw [hem]
          cases ok <;> simp [Instr.lookup, run_underlying hu, MapKept.run_getObj_map hh, hck, hfk, hz, Result.andThen]
        · rw [g4]
          have hfk := run_findKey (w := w) hdk g1
          refine fin e0.val v0 true ?_ g5
          rw [hem]
          cases ok <;> simp [Instr.lookup, run_underlying hu, MapKept.run_getObj_map hh, hck, hfk, Result.andThen]
      · cases h
    · cases h
  · cases h
end
end Go.Proofs.YtcmeincdmphaoaaDoor.DS

namespace Go.Proofs.YtcmeincdmphaoaaDoor.DS
open Go.RowKit

section
variable {P : Program} {E : Env} (hT : TTok P E.tt) {draw : Bool} {st : St} {ops : List Oper} {L : List (Nat × Bool)} {a : Act} {w : World} {ι : Nat → Value} {M : Mem}
  (hev : ∀ x s, ev st ops L x = some s → SVRel E.tt ι M s (a.eval x))
  (hevp : ∀ tc b x s, a.eval (.tmp tc) = .bool b → evPick st ops L tc b x = some s → SVRel E.tt ι M s (a.eval x))
  (hobj : ∀ id o, st.objs id = some o → ObjRel E.tt ι M w id o)
  (hmem : ∀ ad v, M ad = some v → w.cell? ad = some v)

include hev in
theorem evInt_sound {x : Operand} {i : Int} (h : evInt st ops L x = some i) : ∃ k, a.eval x = .int k i := by
  unfold evInt at h
  replace h := opt_some.1 h
  obtain ⟨s, hs, h⟩ := h
  split at h
  · rename_i k d
    injection h with h; subst h
    exact ⟨k, (Rep.inv_int (hev x _ hs)).1⟩
  · cases h

def OptI (v : Option Value) : Option Int → Prop
  | none => v = none
  | some n => ∃ k, v = some (.int k n)
include hev in
theorem optInt_sound {x : Option Operand} {i : Option Int} (h : optInt st ops L x = some i) : OptI (x.map a.eval) i := by
  cases x with
  | none => injection h with h; subst h; rfl
  | some x =>
    simp only [optInt] at h
    replace h := opt_some.1 h
    obtain ⟨n, hn, h⟩ := h
    injection h with h; subst h
    obtain ⟨k, hk⟩ := evInt_sound hev hn
    exact ⟨k, by simp [hk]⟩

/-- The bounds of a slice expression, as the model reads them. -/
theorem bounds_run {P : Program} {w : World} {lo hi : Option Value} {l h : Option Int} (isS : Bool) (n cap : Nat) (hcap : n ≤ cap) (hl : OptI lo l) (hh : OptI hi h)
    (hok : cutOk n l h = true) : (Instr.sliceBounds isS n cap lo hi none).run P w = .ok ((l.getD 0).toNat, (h.getD n).toNat, cap) w := by
  cases l with
  | none =>
    cases h with
    | none =>
      simp only [OptI] at hl hh; subst hl hh
      simp [Instr.sliceBounds]
    | some h =>
      simp only [OptI] at hl; subst hl
      obtain ⟨k, rfl⟩ := hh
      simp only [cutOk, Bool.and_eq_true, decide_eq_true_eq] at hok
      simp only [Instr.sliceBounds, Instr.sliceBound, asIntOf, Sem.run_bind, Sem.run_pure, Result.andThen_ok, Sem.run_ite]
      rw [if_pos ⟨hok.1, by omega⟩]
      simp
  | some l =>
    cases h with
    | none =>
      simp only [OptI] at hh; subst hh
      obtain ⟨k, rfl⟩ := hl
      simp only [cutOk, Bool.and_eq_true, decide_eq_true_eq] at hok
      simp only [Instr.sliceBounds, Instr.sliceBound, asIntOf, Sem.run_bind, Sem.run_pure, Result.andThen_ok, Sem.run_ite]
      rw [if_pos ⟨hok.1, by omega⟩]
      simp
    | some h =>
      obtain ⟨k, rfl⟩ := hl
      obtain ⟨k', rfl⟩ := hh
      simp only [cutOk, Bool.and_eq_true, decide_eq_true_eq] at hok
      simp only [Instr.sliceBounds, Instr.sliceBound, asIntOf, Sem.run_bind, Sem.run_pure, Result.andThen_ok, Sem.run_ite]
      rw [if_pos ⟨by omega, by omega⟩]
      simp only [Result.andThen_ok, Sem.run_pure]
      rw [if_pos ⟨hok.1, by omega⟩]
      simp

theorem cutL_length {α : Type} (s : List α) (l h : Option Int) (hok : cutOk s.length l h = true) : (cutL s l h).length = (h.getD s.length).toNat - (l.getD 0).toNat ∧ (l.getD 0).toNat ≤ (h.getD s.length).toNat ∧ (h.getD s.length).toNat ≤ s.length := by
  cases l <;> cases h <;> simp only [cutOk, Bool.and_eq_true, decide_eq_true_eq] at hok <;> simp [cutL] <;> omega
theorem cutL_get {α : Type} (s : List α) (l h : Option Int) (hok : cutOk s.length l h = true) (i : Nat) : (cutL s l h)[i]? = if i < (cutL s l h).length then s[(l.getD 0).toNat + i]? else none := by
  obtain ⟨h1, h2, h3⟩ := cutL_length s l h hok
  split
  · rename_i hi
    rw [h1] at hi
    cases l <;> cases h <;> simp only [cutOk, Bool.and_eq_true, decide_eq_true_eq] at hok <;> simp only [Option.getD_none, Option.getD_some] at hi <;> simp [cutL, List.getElem?_take] <;> omega
  · exact List.getElem?_eq_none (by omega)

include hT hev in
theorem slice_sound (hobj : ∀ id o, st.objs id = some o → ObjRel E.tt ι M w id o) {o : Oper} {t : TypeId} {x : Operand} {lo hi mx : Option Operand} (ho : o.op = .slice t x lo hi mx) {c : Bool} {v : SV} (h : sliceO E draw st ops L t x lo hi mx = some (.sv c v)) (hc : c = true) : Gives P E.tt ι M a w o v := by
  subst hc
  unfold sliceO at h
  split at h
  · cases h
  · replace h := opt_some.1 h
    obtain ⟨ti, ht, h⟩ := h
    replace h := opt_some.1 h
    obtain ⟨s, hs, h⟩ := h
    replace h := opt_some.1 h
    obtain ⟨l, hl, h⟩ := h
    replace h := opt_some.1 h
    obtain ⟨hh, hhi, h⟩ := h
    have hu := (hT t ti ht).under
    have hsv := hev x s hs
    have hlr := optInt_sound hev hl
    have hhr := optInt_sound hev hhi
    have hexec : execOp a.eval o = (do pure (.value (← Instr.sliceAt t (a.eval x) (lo.map a.eval) (hi.map a.eval) none))) := by simp [execOp, ho]
    split at h
    · rename_i d hk
      rw [hk] at hu
      injection h with h; injection h with h1 h2; subst h2
      obtain ⟨s, hv, hd, hsz⟩ := Rep.inv_str hsv
      subst hd
      simp only [D.toStr] at h1 ⊢
      have e : s.data.toList.length = s.size := by rw [Array.length_toList]; rfl
      have hb := bounds_run (P := P) (w := w) false s.size s.size (Nat.le_refl _) hlr hhr (by rw [← e]; exact h1)
      obtain ⟨c1, c2, c3⟩ := cutL_length _ _ _ h1
      rw [e] at c1 c2 c3
      refine ⟨.string (s.extract (l.getD 0).toNat (hh.getD s.size).toNat), execOp_value hexec ?_, ?_⟩
      · rw [hv]
        simp only [Instr.sliceAt, Instr.slice, Sem.run_bind, run_underlying hu.1, Result.andThen_ok, Option.isSome_none, Bool.false_eq_true, if_false, hb, Sem.run_pure]
      · have e2 : cutL s.data.toList l hh = (s.extract (l.getD 0).toNat (hh.getD s.size).toNat).data.toList := by
          apply List.ext_getElem?
          intro i
          rw [cutL_get _ _ _ h1, c1, ByteArray.data_extract]
          simp only [Array.toList_extract, List.extract_eq_take_drop, List.getElem?_take, List.getElem?_drop]
        rw [e2]
        refine .str _ ?_
        have : (s.extract (l.getD 0).toNat (hh.getD s.size).toNat).size ≤ s.size := by rw [ByteArray.size_extract]; omega
        omega
    · rename_i e e' d hk
      rw [hk] at hu
      replace h := cond_some.1 h
      obtain ⟨he, h⟩ := h
      have he := beq_iff.1 he
      subst he
      injection h with h; injection h with h1 h2; subst h2
      obtain ⟨A, cap, hv, hd, hlc, hcap, hall⟩ := Rep.inv_slice hsv
      have hb := bounds_run (P := P) (w := w) true d.toList.length cap hlc hlr hhr h1
      obtain ⟨c1, c2, c3⟩ := cutL_length _ _ _ h1
      obtain ⟨hun, _, hee⟩ := hu
      obtain ⟨ei, hei⟩ := Option.isSome_iff_exists.1 hee
      obtain ⟨eI, heI, hsz, _⟩ := (hT _ _ hei).info
      have hrun : ∀ A' : Option Addr, A' = (if cap = (l.getD 0).toNat then A else A.map (·.add ((l.getD 0).toNat * ei.cells.length))) → (Instr.sliceAt t (a.eval x) (lo.map a.eval) (hi.map a.eval) none).run P w = .ok (.slice A' ((hh.getD d.toList.length).toNat - (l.getD 0).toNat) (cap - (l.getD 0).toNat)) w := by
        rintro _ rfl
        rw [hv]
        simp only [Instr.sliceAt, Instr.slice, Sem.run_bind, run_underlying hun, Result.andThen_ok, hb, run_size heI, hsz, Sem.run_pure]
      refine ⟨_, execOp_value hexec (hrun _ rfl), ?_⟩
      rw [← c1]
      show Rep E.tt M (.slice e) _ (.list (cutL d.toList l hh))
      rcases Nat.eq_zero_or_pos (cutL d.toList l hh).length with h0 | h0
      · have : cutL d.toList l hh = [] := List.eq_nil_of_length_eq_zero h0
        rw [this]
        exact .nil _ _ _ (by omega)
      · obtain ⟨ei', ad, vs, rfl, hei', hsp, hz, hM, hr⟩ := hall (by omega)
        rw [hei] at hei'; cases hei'
        rw [if_neg (by omega)]
        simp only [Option.map_some]
        refine .slice e ei _ _ _ (fun i => vs ((l.getD 0).toNat + i)) h0 (by omega) (by omega) hei (by rw [add_spot _ hsp]) (fun i hi => hz _ (by omega)) ?_ ?_
        · intro i j u hi hu
          rw [add_spot _ hsp]
          have := hM ((l.getD 0).toNat + i) j u (by omega) hu
          simp only at this ⊢
          rw [← this]
          congr 2
          rw [Nat.add_mul]; omega
        · intro i hi
          have := cutL_get d.toList l hh h1 i
          rw [if_pos hi, List.getElem?_eq_getElem hi, List.getElem?_eq_getElem (by omega)] at this
          injection this with this
          rw [this]
          exact hr _ _
    · rename_i e id hk
      rw [hk] at hu
      split at h
      · cases draw with
        | true => cases h
        | false =>
          replace h := (cond_some.1 (show cond _ _ none = some _ from h)).2
          cases h
      · rename_i l' e' es hob
        split at h
        · replace h := cond_some.1 h
          obtain ⟨he, h⟩ := h
          have he := beq_iff.1 he
          subst he
          injection h with h; injection h with h1 h2; subst h2
          obtain ⟨ei, hei, hpos, harr⟩ := hobj id _ hob
          obtain ⟨inf, hinf, hsz, _⟩ := (hT e ei hei).info
          have hv : a.eval x = ι id := hsv.1
          obtain ⟨A, n, cap, hι, hn, hnc⟩ : ∃ A n cap, ι id = .slice A n cap ∧ n = es.length ∧ n ≤ cap := by
            rcases harr with ⟨hι, he0⟩ | ⟨b, cap, cur, tt', fr, vs, hι, hheap, hlen, _⟩
            · exact ⟨none, 0, 0, hι, by rw [he0]; rfl, Nat.le_refl _⟩
            · exact ⟨_, _, _, hι, rfl, hlen⟩
          subst hn
          have hb := bounds_run (P := P) (w := w) true es.length cap hnc hlr hhr h1
          have hle : l'.toNat ≤ es.length := by
            simp only [cutOk, Bool.and_eq_true, decide_eq_true_eq] at h1; omega
          refine ⟨.slice (if cap = l'.toNat then A else A.map (·.add (l'.toNat * ei.cells.length))) (es.length - l'.toNat) (cap - l'.toNat), execOp_value hexec ?_, ?_⟩
          · rw [hv, hι]
            simp only [Instr.sliceAt, Instr.slice, Sem.run_bind, run_underlying hu.1, Result.andThen_ok, hb, run_size hinf, hsz, Sem.run_pure, Option.getD_some, Option.getD_none, Int.toNat_natCast]
          · exact ⟨ei, A, es.length, cap, hei, hι, hle, hnc, rfl⟩
        · cases h
      · cases h
    · cases h

theorem addr_eta (ad : Addr) (h : ad.spot = none) : ad = ⟨ad.block, ad.off, none⟩ := by
  cases ad; simp only at h; subst h; rfl
theorem dsz (xs : List D) (n : Nat) (h : xs.length ≤ n) : (ByteArray.mk (dBytes xs).toArray).size ≤ n := by
  have : (ByteArray.mk (dBytes xs).toArray).size = xs.length := by simp [ByteArray.size, dBytes]
  omega

include hT hev hobj hmem in
theorem convert_sound {o : Oper} {t t' : TypeId} {x : Operand} (ho : o.op = .convert t t' x) {c : Bool} {v : SV} (h : convertO E st ops L o.dst t t' x = some (.sv c v)) : Gives P E.tt ι M a w o v ∧ c = true := by
  unfold convertO at h
  replace h := opt_some.1 h
  obtain ⟨si, hsi, h⟩ := h
  replace h := opt_some.1 h
  obtain ⟨ti, hti, h⟩ := h
  replace h := opt_some.1 h
  obtain ⟨s, hs, h⟩ := h
  have hsu := (hT t si hsi).under
  have htu := (hT t' ti hti).under
  have hsv := hev x s hs
  have hexec : execOp a.eval o = (do pure (.value (← convert t t' (a.eval x)))) := by simp [execOp, ho]
  -- the bytes of a row, as a string
  have hbytes : ∀ (b cap0 off0 : Nat) (xs : List D) (vs : Nat → Value), (∀ i (hi : i < xs.length), w.cell? ⟨b, off0 + i, none⟩ = some (vs i) ∧ Rep E.tt M (.int .u8) (vs i) xs[i]) →
      (Conv.bytesToString (.slice (some ⟨b, off0, none⟩) xs.length cap0)).run P w = .ok (.string ⟨(dBytes xs).toArray⟩) w := by
    intro b cap0 off0 xs vs hall
    have hcells : (loadCells ⟨b, off0, none⟩ xs.length).run P w = .ok (xs.map fun d => Value.int .u8 d.toInt).toArray w := by
      have := run_loadCells_list (P := P) w ⟨b, off0, none⟩ (xs.map fun d => Value.int .u8 d.toInt) (fun j v hj => by
        rw [List.getElem?_map, Option.map_eq_some_iff] at hj
        obtain ⟨d, hd, rfl⟩ := hj
        have hlt : j < xs.length := (List.getElem?_eq_some_iff.1 hd).1
        obtain ⟨q1, q2⟩ := hall j hlt
        have q3 : xs[j] = d := (List.getElem?_eq_some_iff.1 hd).2
        rw [add_spot _ rfl, q1, (q2.inv_int).1, q3])
      simpa using this
    simp only [Conv.bytesToString, Sem.run_bind, hcells, Result.andThen_ok]
    have hfold : ∀ (ys : List D) (acc : ByteArray), ys.foldl (fun b a => b.push (UInt8.ofNat a.toInt.toNat)) acc = ⟨acc.data ++ (dBytes ys).toArray⟩ := by
      intro ys
      induction ys with
      | nil => intro acc; simp [dBytes]
      | cons y r ih =>
        intro acc
        rw [List.foldl_cons, ih]
        congr 1
        apply Array.ext'
        simp [dBytes, ByteArray.push]
    have := hfold xs ByteArray.empty
    simp
    rw [this]
    simp
  have hu8 : ∀ {e : TypeId} {ei : TI}, lk e E.tt = some ei → ei.kt = .int .u8 → P.underlying e = some (.int .u8) ∧ ei.cells.length = 1 := by
    intro e ei he hk
    have := (hT e ei he).under
    rw [hk] at this
    exact ⟨this.1, by rw [this.2]; rfl⟩
  split at h
  · rename_i q k q' d hk1 hk2
    rw [hk1] at hsu; rw [hk2] at htu
    injection h with h; injection h with h1 h2; subst h1 h2
    obtain ⟨hv, _, _⟩ := Rep.inv_int hsv
    refine ⟨⟨_, execOp_value hexec (u := .int k (k.wrap d.toInt)) ?_, .int _ _ (wf_wrap _ _)⟩, rfl⟩
    rw [hv]
    simp only [convert, Sem.run_bind, run_underlying hsu.1, run_underlying htu.1, Result.andThen_ok, Conv.intToInt, Sem.run_pure]
  · rename_i d hk1 hk2
    rw [hk1] at hsu; rw [hk2] at htu
    injection h with h; injection h with h1 h2; subst h1 h2
    obtain ⟨s, hv, hd, hsz⟩ := Rep.inv_str hsv
    subst hd
    refine ⟨⟨_, execOp_value hexec (u := .string s) ?_, .str _ hsz⟩, rfl⟩
    rw [hv]
    simp only [convert, Sem.run_bind, run_underlying hsu.1, run_underlying htu.1, Result.andThen_ok, Sem.run_pure]
  · rename_i e e' d hk1 hk2
    rw [hk1] at hsu; rw [hk2] at htu
    replace h := cond_some.1 h
    obtain ⟨he, h⟩ := h
    have he := beq_iff.1 he
    subst he
    replace h := opt_some.1 h
    obtain ⟨ei, hei, h⟩ := h
    replace h := cond_some.1 h
    obtain ⟨hku, h⟩ := h
    have hku := KT.eq_iff.1 hku
    injection h with h; injection h with h1 h2; subst h1 h2
    obtain ⟨hun, hlen⟩ := hu8 hei hku
    obtain ⟨A, cap, hv, hd, hlc, hcap, hall⟩ := Rep.inv_slice hsv
    have hrun : ∀ u, (Conv.bytesToString (.slice A d.toList.length cap)).run P w = .ok u w → (convert t t' (a.eval x)).run P w = .ok u w := by
      intro u hu
      rw [hv]
      simp only [convert, Sem.run_bind, run_underlying hsu.1, run_underlying htu.1, Result.andThen_ok, run_underlying hun, hu]
    have hrep : Rep E.tt M .str (.string ⟨(dBytes d.toList).toArray⟩) (.str (dBytes d.toList)) := by
      have := Rep.str (tt := E.tt) (M := M) ⟨(dBytes d.toList).toArray⟩ (dsz _ _ (by omega))
      simpa using this
    refine ⟨⟨_, execOp_value hexec (hrun _ ?_), hrep⟩, rfl⟩
    rcases Nat.eq_zero_or_pos d.toList.length with h0 | h0
    · have hnil : d.toList = [] := List.eq_nil_of_length_eq_zero h0
      rw [hnil]
      cases A with
      | none => rfl
      | some ad => rfl
    · obtain ⟨ei', ad, vs, rfl, hei', hsp, hz, hM, hr⟩ := hall h0
      rw [hei] at hei'; cases hei'
      have e : ad = ⟨ad.block, ad.off, none⟩ := addr_eta ad hsp
      rw [e]
      refine hbytes ad.block cap ad.off d.toList vs (fun i hi => ?_)
      have hri := hr i hi
      rw [hku] at hri
      refine ⟨hmem _ _ ?_, hri⟩
      have := hM i 0 (vs i) hi (by rw [(hri.cells_single rfl).1]; rfl)
      rw [hlen] at this
      simpa using this
  · rename_i e id hk1 hk2
    rw [hk1] at hsu; rw [hk2] at htu
    cases hob : st.objs id with
    | none => rw [hob] at h; cases h
    | some ob =>
      rw [hob] at h
      have hor := hobj id ob hob
      cases ob with
      | box u' bc => cases h
      | map _ _ => cases h
      | arr e' es =>
        replace h := cond_some.1 h
        obtain ⟨he, h⟩ := h
        have he := beq_iff.1 he
        subst he
        replace h := opt_some.1 h
        obtain ⟨ei, hei, h⟩ := h
        replace h := cond_some.1 h
        obtain ⟨hku, h⟩ := h
        have hku := KT.eq_iff.1 hku
        injection h with h; injection h with h1 h2; subst h1 h2
        obtain ⟨hun, hlen⟩ := hu8 hei hku
        obtain ⟨ei', hei', hpos, harr⟩ := hor
        rw [hei] at hei'; cases hei'
        have hv : a.eval x = ι id := hsv.1
        rcases harr with ⟨hι, he0⟩ | ⟨b, cap, cur, tt', fr, vs, hι, hheap, hlen2, hcap, hcur, hfr, hall⟩
        · subst he0
          refine ⟨⟨.string .empty, execOp_value hexec ?_, .str ByteArray.empty (by decide)⟩, rfl⟩
          rw [hv, hι]
          simp [convert, run_underlying hsu.1, run_underlying htu.1, run_underlying hun, Conv.bytesToString]
        · have hrep : Rep E.tt M .str (.string ⟨(dBytes es).toArray⟩) (.str (dBytes es)) := by
            have := Rep.str (tt := E.tt) (M := M) ⟨(dBytes es).toArray⟩ (dsz _ _ (by omega))
            simpa using this
          refine ⟨⟨_, execOp_value hexec ?_, hrep⟩, rfl⟩
          rw [hv, hι]
          have := hbytes b cap 0 es vs (fun i hi => ?_)
          · simp only [convert, Sem.run_bind, run_underlying hsu.1, run_underlying htu.1, Result.andThen_ok, run_underlying hun, this]
          · obtain ⟨q1, q2, q3⟩ := hall i hi
            rw [hku] at q3
            refine ⟨?_, q3⟩
            have := q2 0 (vs i) (by rw [(q3.cells_single rfl).1]; rfl)
            rw [hlen] at this
            simp only [World.cell?, hheap]
            simpa using this
  · rename_i e hk1 hk2
    rw [hk1] at hsu; rw [hk2] at htu
    replace h := opt_some.1 h
    obtain ⟨ei, hei, h⟩ := h
    replace h := cond_some.1 h
    obtain ⟨hku, h⟩ := h
    have hku := KT.eq_iff.1 hku
    injection h with h; injection h with h1 h2; subst h1 h2
    obtain ⟨hun, hlen⟩ := hu8 hei hku
    have hv : a.eval x = .slice none 0 0 := hsv
    refine ⟨⟨.string .empty, execOp_value hexec ?_, .str ByteArray.empty (by decide)⟩, rfl⟩
    rw [hv]
    simp [convert, run_underlying hsu.1, run_underlying htu.1, run_underlying hun, Conv.bytesToString]
  · replace h := opt_some.1 h
    obtain ⟨ei, hei, h⟩ := h
    replace h := cond_some.1 h
    obtain ⟨_, h⟩ := h
    unfold withObj at h
    split at h
    · replace h := cond_some.1 h
      obtain ⟨_, h⟩ := h
      cases h
    · cases h
  · cases h

include hev in
theorem mmFold_sound (isMax : Bool) (k : IntKind) (l : List Operand) : ∀ (n m : Int), (Lit.int k n).wf = true → mmFold st ops L isMax k l n = some m → (Lit.int k m).wf = true ∧
    ((l.map a.eval).foldlM (if isMax then Builtin.max2 else Builtin.min2) (.int k n) : Sem Value).run P w = .ok (.int k m) w := by
  induction l with
  | nil => intro n m hw h; injection h with h; subst h; exact ⟨hw, by simp⟩
  | cons x r ih =>
    intro n m hw h
    simp only [mmFold] at h
    replace h := opt_some.1 h
    obtain ⟨s, hs, h⟩ := h
    split at h
    · rename_i k' d
      replace h := cond_some.1 h
      obtain ⟨he, h⟩ := h
      have he := ikEq_iff.1 he
      subst he
      obtain ⟨hv, _, hwd⟩ := Rep.inv_int (hev x _ hs)
      have hwn : (Lit.int k (mmInt isMax n d.toInt)).wf = true := by
        unfold mmInt
        cases isMax
        · simp only [cond_false]; cases decide (d.toInt < n) <;> assumption
        · simp only [cond_true]; cases decide (n < d.toInt) <;> assumption
      obtain ⟨h1, h2⟩ := ih _ _ hwn h
      refine ⟨h1, ?_⟩
      rw [List.map_cons, List.foldlM_cons]
      have : ((if isMax = true then Builtin.max2 else Builtin.min2) (.int k n) (a.eval x)).run P w = .ok (.int k (mmInt isMax n d.toInt)) w := by
        rw [hv]
        cases isMax
        · simp only [Bool.false_eq_true, if_false, Builtin.min2, Sem.run_pure, mmInt, cond_false]
          congr 2
          by_cases hlt : d.toInt < n <;> simp [hlt]
        · simp only [if_true, Builtin.max2, Sem.run_pure, mmInt, cond_true]
          congr 2
          by_cases hlt : n < d.toInt <;> simp [hlt]
      simp only [Sem.run_bind, this, Result.andThen_ok]
      exact h2
    · cases h

include hev in
theorem mm_sound {o : Oper} {cl : Call} (isMax : Bool) (ho : o.op = .call cl) (hcl : cl.callee = .builtin (if isMax then .max else .min)) {c : Bool} {v : SV} (h : mmO st ops L isMax cl.args.toList = some (.sv c v)) : Gives P E.tt ι M a w o v ∧ c = true := by
  have hm : ∀ l : List Operand, cl.args.toList = l → (cl.args.map a.eval).toList = l.map a.eval := by
    intro l hl; rw [Array.toList_map, hl]
  generalize hl : cl.args.toList = l at h
  cases l with
  | nil => cases h
  | cons x r =>
    simp only [mmO] at h
    replace h := opt_some.1 h
    obtain ⟨s, hs, h⟩ := h
    split at h
    · rename_i k d
      replace h := opt_some.1 h
      obtain ⟨m, hm', h⟩ := h
      injection h with h; injection h with h1 h2; subst h1 h2
      obtain ⟨hv, _, hwd⟩ := Rep.inv_int (hev x _ hs)
      obtain ⟨h1, h2⟩ := mmFold_sound (P := P) (w := w) hev isMax k r _ _ hwd hm'
      refine ⟨⟨.int k m, ?_, .int _ _ h1⟩, rfl⟩
      have e := hm _ hl
      rw [List.map_cons, hv] at e
      cases isMax
      · simp only [Bool.false_eq_true, if_false] at hcl h2
        simp [execOp, ho, resolve, hcl, invoke, builtin, Builtin.min_, hl, hv, h2]
      · simp only [if_true] at hcl h2
        simp [execOp, ho, resolve, hcl, invoke, builtin, Builtin.max_, hl, hv, h2]
    · cases h

theorem withObj_sv {dst : Option Nat} {ob : Obj} {vv : Nat → SV} {c0 : Bool} {c : Bool} {v : SV} (h : withObj st dst ob vv c0 = some (.sv c v)) : False := by
  unfold withObj at h
  split at h
  · replace h := cond_some.1 h
    obtain ⟨_, h⟩ := h
    cases h
  · cases h

include hT hev hevp hobj hmem in
/-- Every operation that leaves the state alone does so in memory, and gives what it says. -/
theorem sv_sound {o : Oper} {c : Bool} {v : SV} (h : opO E draw st ops L o = some (.sv c v)) (hc : c = true) : Gives P E.tt ι M a w o v := by
  unfold opO at h
  split at h
  case h_1 x hx => exact (move_sound hT hev (by simp [execOp, hx]) h).1
  case h_2 x hx => exact (move_sound hT hev (by simp [execOp, hx]) h).1
  case h_3 x y z hx => exact (pick_sound hev hevp hx h).1
  case h_4 t hx => 
    unfold allocO at h
    replace h := opt_some.1 h
    obtain ⟨ti, _, h⟩ := h
    exact (withObj_sv h).elim
  case h_5 t x hx =>
    unfold boxO at h
    replace h := opt_some.1 h
    obtain ⟨ti, _, h⟩ := h
    replace h := opt_some.1 h
    obtain ⟨s, _, h⟩ := h
    replace h := opt_some.1 h
    obtain ⟨d, _, h⟩ := h
    exact (withObj_sv h).elim
  case h_6 t ps hx => exact build_sound hT hev hx h
  case h_7 t n ps hx =>
    unfold buildSliceO at h
    replace h := opt_some.1 h
    obtain ⟨ti, _, h⟩ := h
    split at h
    · replace h := opt_some.1 h
      obtain ⟨ei, _, h⟩ := h
      replace h := opt_some.1 h
      obtain ⟨ds, _, h⟩ := h
      replace h := cond_some.1 h
      exact (withObj_sv h.2).elim
    · cases h
  case h_8 t x hx => exact (load_sound hT hev hobj hmem hx h).1
  case h_9 t x y hx =>
    unfold storeO at h
    replace h := opt_some.1 h
    obtain ⟨ti, _, h⟩ := h
    replace h := opt_some.1 h
    obtain ⟨s, _, h⟩ := h
    replace h := opt_some.1 h
    obtain ⟨s', _, h⟩ := h
    split at h
    · replace h := cond_some.1 h
      replace h := h.2
      split at h
      · replace h := cond_some.1 h
        replace h := h.2
        replace h := opt_some.1 h
        obtain ⟨ui, _, h⟩ := h
        replace h := opt_some.1 h
        obtain ⟨c', _, h⟩ := h
        cases h
      · cases h
    · replace h := cond_some.1 h
      replace h := h.2
      replace h := opt_some.1 h
      obtain ⟨d, _, h⟩ := h
      split at h
      · replace h := cond_some.1 h
        replace h := h.2
        replace h := opt_some.1 h
        obtain ⟨c', _, h⟩ := h
        revert h
        generalize (Nat.beq _ _ && _) = b1
        generalize (isAggK _) = b2
        intro h
        cases b1 <;> cases b2 <;> cases h
      · cases h
    · cases h
  case h_10 op t x y yt hx =>
    replace h := opt_some.1 h
    obtain ⟨s1, hs1, h⟩ := h
    replace h := opt_some.1 h
    obtain ⟨s2, hs2, h⟩ := h
    obtain ⟨u, hu, hr⟩ := bin_gives (P := P) (w := w) hT (hev x s1 hs1) (hev y s2 hs2) h hc
    exact ⟨u, execOp_value (s := do eqGuard op t x y (a.eval x) (a.eval y); binOp op t (a.eval x) (a.eval y)) (by simp [execOp, hx]) (hu x y), hr⟩
  case h_11 op t x hx =>
    replace h := opt_some.1 h
    obtain ⟨s1, hs1, h⟩ := h
    have hsv := hev x s1 hs1
    unfold unO at h
    split at h
    · injection h with h; injection h with h1 h2; subst h2
      obtain ⟨hv, _⟩ := Rep.inv_bool hsv
      exact ⟨_, execOp_value (s := Op.unary .not (a.eval x)) (by simp [execOp, hx]) (by rw [hv]; simp only [Op.unary, Sem.run_pure]; first | done | rfl), .bool _⟩
    · injection h with h; injection h with h1 h2; subst h2
      obtain ⟨hv, _⟩ := Rep.inv_int hsv
      exact ⟨_, execOp_value (s := Op.unary .neg (a.eval x)) (by simp [execOp, hx]) (by rw [hv]; simp only [Op.unary, Op.intArith, Sem.run_pure]; first | done | rfl), .int _ _ (wf_wrap _ _)⟩
    · cases h
  case h_12 s t x hx => exact (convert_sound hT hev hobj hmem hx h).1
  case h_13 t x y hx =>
    unfold makeSliceO at h
    replace h := opt_some.1 h
    obtain ⟨ti, _, h⟩ := h
    replace h := opt_some.1 h
    obtain ⟨n, _, h⟩ := h
    replace h := opt_some.1 h
    obtain ⟨m, _, h⟩ := h
    split at h
    · replace h := opt_some.1 h
      obtain ⟨ei, _, h⟩ := h
      split at h
      · cases h
      · cases h
      · cases h
      · exact (withObj_sv (cond_some.1 h).2).elim
    · cases h
  case h_14 t x lo hi mx hx => exact slice_sound hT hev hobj hx h hc
  case h_15 t x f hx => exact (fieldAddr_sound hT hev hx h).1
  case h_16 t x y hx => exact indexAddr_sound hT hev hobj hx h hc
  case h_17 t x y hx => exact index_sound hT hev hx h hc
  case h_18 x hx =>
    replace h := opt_some.1 h
    obtain ⟨s1, hs1, h⟩ := h
    have hsv := hev x s1 hs1
    have hp : ∃ ad, a.eval x = .pointer (some ad) ∧ s1 = v := by
      split at h
      · injection h with h; injection h with h1 h2; subst h2
        obtain ⟨ad, _, _, _, hv, _⟩ := hsv
        exact ⟨ad, hv, rfl⟩
      · injection h with h; injection h with h1 h2; subst h2
        obtain ⟨_, b, _, hv⟩ := hsv
        exact ⟨_, hv, rfl⟩
      · injection h with h; injection h with h1 h2; subst h2
        obtain ⟨_, b, n, cap, ei, _, _, _, _, hv⟩ := hsv
        exact ⟨_, hv, rfl⟩
      · cases h
    obtain ⟨ad, hv, rfl⟩ := hp
    exact gives_pure (u := a.eval x) (by simp [execOp, hx, hv]) hsv
  case h_19 x i hx =>
    replace h := opt_some.1 h
    obtain ⟨s1, hs1, h⟩ := h
    have hsv := hev x s1 hs1
    split at h
    · rename_i l
      split at h
      · cases h
      · cases h
      · rename_i s' _ _ hs'
        injection h with h; injection h with h1 h2; subst h2
        obtain ⟨vs, hv, hl, hr⟩ := hsv
        have hlt : i < vs.length := by rw [hl]; exact (List.getElem?_eq_some_iff.1 hs').1
        refine ⟨vs[i], execOp_value (s := Instr.extract (a.eval x) i) (by simp [execOp, hx]) ?_, SVRel.of0 (hr i s' vs[i] hs' (List.getElem?_eq_getElem hlt))⟩
        rw [hv]
        simp [Instr.extract, hlt]
      · cases h
    · cases h
  case h_20 cl hx =>
    unfold callO at h
    split at h
    · replace h := opt_some.1 h
      obtain ⟨sg, _, h⟩ := h
      rcases callF_out h with ⟨_, _, h⟩ | ⟨_, _, _, h⟩ <;> cases h
    · rename_i hcl
      split at h
      · rename_i x t h1 h2
        exact (len_sound hT hev hobj hx hcl h1 h2 h).1
      · cases h
    · split at h
      · unfold appendO at h
        replace h := opt_some.1 h
        obtain ⟨ti, _, h⟩ := h
        replace h := opt_some.1 h
        obtain ⟨xi, _, h⟩ := h
        replace h := opt_some.1 h
        obtain ⟨s1, _, h⟩ := h
        replace h := opt_some.1 h
        obtain ⟨s2, _, h⟩ := h
        split at h
        · replace h := opt_some.1 h
          obtain ⟨ei, _, h⟩ := h
          replace h := cond_some.1 h
          replace h := h.2
          replace h := opt_some.1 h
          obtain ⟨ds, _, h⟩ := h
          split at h
          · exact (withObj_sv h).elim
          · split at h
            · revert h
              rename_i q1 q2 q3 q4 q5
              intro h
              generalize hq : Nat.beq _ _ = bb at h
              cases bb with
              | true => cases h
              | false =>
                simp only [cond_false] at h
                split at h
                · replace h := cond_some.1 h
                  replace h := h.2
                  cases h
                · cases h
            · split at h
              · replace h := cond_some.1 h
                replace h := h.2
                cases h
              · cases h
          · cases h
        · cases h
      · cases h
    · split at h
      · obtain ⟨_, _, _, _, _, _, _, _, _, _, _, _, _, _, _, _, h⟩ := copyO_inv h
        cases h
      · cases h
    · rename_i hcl
      exact (mm_sound hev true hx (by rw [hcl]; rfl) h).1
    · rename_i hcl
      exact (mm_sound hev false hx (by rw [hcl]; rfl) h).1
    · obtain ⟨_, _, _, _, _, _, _, _, _, h⟩ := clo_out h
      cases h
    · cases h
  case h_21 f fs cs hx =>
    obtain ⟨_, x, id, u, k, h1, h2, h3, h4⟩ := mkf_out h
    injection h4 with h4 h5
    subst h5
    obtain ⟨_, b, h6, h7⟩ := hev x _ h3
    refine ⟨.func (.func f) #[] #[.pointer (some ⟨b, 0, none⟩)], ?_, ⟨b, h6, rfl⟩⟩
    have e1 : fs = #[] := by apply Array.toList_inj.1; rw [h1]
    have e2 : cs = #[x] := by apply Array.toList_inj.1; rw [h2]
    subst e1 e2
    refine execOp_value (s := Instr.makeFunc (.func f) #[] #[a.eval x]) (by simp [execOp, hx]) ?_
    rw [h7]; rfl
  case h_22 t x f hx => exact field_sound hT hev hx h
  case h_23 t hx =>
    unfold makeMapO at h
    replace h := opt_some.1 h
    obtain ⟨ti, _, h⟩ := h
    split at h
    · replace h := opt_some.1 h
      obtain ⟨ki, _, h⟩ := h
      replace h := opt_some.1 h
      obtain ⟨ei, _, h⟩ := h
      exact (withObj_sv (cond_some.1 h).2).elim
    · cases h
  case h_24 t m x ok hx => exact lookup_sound hT hev hobj hx h
  case h_25 t m x y hx => exact (mapUpdateO_sv h).elim
  case h_26 t m x y hx => exact (mapUpdateO_sv h).elim
  case h_27 => cases h

end
end Go.Proofs.YtcmeincdmphaoaaDoor.DS
