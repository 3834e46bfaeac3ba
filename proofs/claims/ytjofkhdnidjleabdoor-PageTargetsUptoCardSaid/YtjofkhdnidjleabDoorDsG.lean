/- More operations that leave the world alone. -/
import Derived.Test.YtjofkhdnidjleabDoorDsF
import Derived.OpenShut
set_option linter.unusedVariables false
set_option linter.unusedSimpArgs false
namespace Go.Proofs.YtjofkhdnidjleabDoor.DS
open Go.RowKit

theorem const_rel {tt : TT} {ι : Nat → Value} {M : Mem} {v : Value} {s : SV} (h : constSV v = some s) : SVRel0 tt ι M s v := by
  unfold constSV at h
  split at h
  · injection h with h; subst h; exact .bool _
  · obtain ⟨hw, h⟩ := cond_some.1 h
    injection h with h; subst h; exact .int _ _ hw
  · rename_i s'
    obtain ⟨hw, h⟩ := cond_some.1 h
    injection h with h; subst h
    have := Nat.le_of_ble_eq_true hw
    exact .str s' (by rw [Array.length_toList] at this; exact this)
  · injection h with h; subst h; rfl
  · injection h with h; subst h; exact trivial
  · cases h

theorem svD1_rel {tt : TT} {ι : Nat → Value} {M : Mem} {k : KT} {s : SV} {d : D} {v : Value} (h : svD1 k s = some d) (hr : SVRel0 tt ι M s v) : Rep tt M k v d := by
  cases s with
  | val k' d' =>
    replace h := cond_some.1 h
    obtain ⟨he, h⟩ := h
    have he := KT.eq_iff.1 he
    subst he
    injection h with h; subst h; exact hr
  | nil =>
    cases k <;> simp [svD1] at h
    subst h
    have : v = .slice none 0 0 := hr
    rw [this]; exact .nil _ _ _ (by omega)
  | _ => simp [svD1] at h
theorem cellsD_rel {tt : TT} {ι : Nat → Value} {M : Mem} : ∀ (ks : List KT) (ss : List SV) (ds : List D) (cc : List Value), cellsD ks ss = some ds → cc.length = ss.length → (∀ (i : Nat) (s : SV) (c : Value), ss[i]? = some s → cc[i]? = some c → SVRel0 tt ι M s c) →
    ds.length = ks.length ∧ ss.length = ks.length ∧ ∀ (i : Nat) (h1 : i < ks.length) (h2 : i < cc.length) (h3 : i < ds.length), Rep tt M ks[i] cc[i] ds[i] := by
  intro ks
  induction ks with
  | nil =>
    intro ss ds cc h hl hr
    cases ss with
    | nil => simp [cellsD] at h; subst h; exact ⟨rfl, rfl, fun i h1 => absurd h1 (by simp)⟩
    | cons s ss => simp [cellsD] at h
  | cons k ks ih =>
    intro ss ds cc h hl hr
    cases ss with
    | nil => simp [cellsD] at h
    | cons s ss =>
      cases cc with
      | nil => simp at hl
      | cons c cc =>
        simp only [cellsD] at h
        split at h
        · rename_i d r hd hr2
          injection h with h; subst h
          obtain ⟨i1, i2, i3⟩ := ih ss r cc hr2 (by simpa using hl) (fun i s c hs hc => hr (i + 1) s c (by simpa using hs) (by simpa using hc))
          refine ⟨by simp [i1], by simp [i2], ?_⟩
          intro i h1 h2 h3
          cases i with
          | zero => exact svD1_rel hd (hr 0 s c rfl rfl)
          | succ i => simpa using i3 i (by simpa using h1) (by simpa using h2) (by simpa using h3)
        · cases h
theorem svD_rel {tt : TT} {ι : Nat → Value} {M : Mem} {k : KT} {s : SV} {d : D} {v : Value} (h : svD k s = some d) (hr : SVRel tt ι M s v) : Rep tt M k v d := by
  cases s with
  | tup l => simp [svD, svD1] at h
  | sag t ks l =>
    simp only [svD] at h
    cases k with
    | agg u =>
      replace h := cond_some.1 h
      obtain ⟨he, h⟩ := h
      have he := beq_iff.1 he
      subst he
      generalize hc : cellsD ks l = q at h
      cases q with
      | none => cases h
      | some ds =>
        injection h with h; subst h
        obtain ⟨ti, vs, h1, h2, h3, rfl, h5, h6, h7⟩ := hr
        subst h3
        obtain ⟨q1, q2, q3⟩ := cellsD_rel _ _ _ _ hc h5 h7
        exact .agg t ti vs ds h1 h2 (by rw [h5, h6]) q1 (fun i a b c => q3 i a b c)
    | _ => cases h
  | val k' d' => exact svD1_rel (ι := ι) (s := .val k' d') h hr
  | nil => exact svD1_rel (ι := ι) (M := M) (s := .nil) h hr
  | _ => simp [svD, svD1] at h

section
variable {P : Program} {E : Env} {st : St} {ops : List Oper} {L : List (Nat × Bool)} {a : Act} {w : World} {ι : Nat → Value} {M : Mem}

theorem wf_tmod (k : IntKind) (x y : Int) (h : (Lit.int k x).wf = true) : (Lit.int k (x.tmod y)).wf = true := by
  simp only [Lit.wf, Bool.and_eq_true, decide_eq_true_eq] at h ⊢
  have h1 : (x.tmod y).natAbs ≤ x.natAbs := by
    rw [Int.natAbs_tmod]; exact Nat.mod_le _ _
  have h2 : 0 ≤ x → 0 ≤ x.tmod y := fun hx => Int.tmod_nonneg y hx
  have h3 : x ≤ 0 → x.tmod y ≤ 0 := fun hx => by
    have := Int.tmod_nonneg y (show 0 ≤ -x by omega)
    rw [Int.neg_tmod] at this
    omega
  have hmin : k.min ≤ 0 := by cases k <;> decide
  have hmax : 0 ≤ k.max := by cases k <;> decide
  rcases Int.le_total 0 x with hx | hx
  · have := h2 hx; omega
  · have := h3 hx; omega
theorem wf_fdiv (k : IntKind) (x : Int) (n : Nat) (h : (Lit.int k x).wf = true) : (Lit.int k (x.fdiv (2 ^ n))).wf = true := by
  simp only [Lit.wf, Bool.and_eq_true, decide_eq_true_eq] at h ⊢
  have hp : (0 : Int) < 2 ^ n := Int.pow_pos (by decide)
  rw [Int.fdiv_eq_ediv_of_nonneg _ (Int.le_of_lt hp)]
  have hmin : k.min ≤ 0 := by cases k <;> decide
  have hmax : 0 ≤ k.max := by cases k <;> decide
  generalize (2 : Int) ^ n = p at hp
  constructor
  · rcases Int.le_total 0 x with hx | hx
    · have := Int.ediv_nonneg hx (Int.le_of_lt hp); omega
    · have : x ≤ x / p := by
        rw [Int.le_ediv_iff_mul_le hp]
        have := Int.mul_le_mul_of_nonpos_left hx (show (1 : Int) ≤ p by omega)
        omega
      omega
  · rcases Int.le_total 0 x with hx | hx
    · have := Int.ediv_le_self p hx; omega
    · have : x / p ≤ 0 := by
        have := Int.ediv_le_ediv hp hx
        simpa using this
      omega

theorem eqGuard_int {op : BinOp} {t : TypeId} {x y : Operand} {k k' : IntKind} {m n : Int} : (eqGuard op t x y (.int k m) (.int k' n)).run P w = .ok () w := by cases op <;> rfl
theorem eqGuard_str {op : BinOp} {t : TypeId} {x y : Operand} {m n : ByteArray} : (eqGuard op t x y (.string m) (.string n)).run P w = .ok () w := by cases op <;> rfl
theorem eqGuard_bool {op : BinOp} {t : TypeId} {x y : Operand} {m n : Bool} : (eqGuard op t x y (.bool m) (.bool n)).run P w = .ok () w := by cases op <;> rfl

/-- What an operation on values gives. -/
def BinGives (P : Program) (tt : TT) (ι : Nat → Value) (M : Mem) (w : World) (op : BinOp) (t : TypeId) (u1 u2 : Value) (v : SV) : Prop :=
  ∃ u, (∀ x y, (do eqGuard op t x y u1 u2; binOp op t u1 u2 : Sem Value).run P w = .ok u w) ∧ SVRel tt ι M v u

theorem int_gives {tt : TT} {k : IntKind} {op : BinOp} {t : TypeId} {x y : Int} (hx : (Lit.int k x).wf = true) (hy : (Lit.int k y).wf = true) (hs : isShift op = false) {c : Bool} {v : SV}
    (h : intOp op k x y = some (.sv c v)) (hc : c = true) : BinGives P tt ι M w op t (.int k x) (.int k y) v := by
  subst hc
  unfold intOp at h
  cases op <;> simp only [Option.some.injEq, Out.sv.injEq, Bool.not_eq_true', decide_eq_false_iff_not, true_and, reduceCtorEq] at h <;> try (simp [isShift] at hs; done)
  case andNot =>
    subst h
    refine ⟨.int k (k.wrap (BitVec.ofInt k.bits x &&& ~~~BitVec.ofInt k.bits y).toNat), fun _ _ => ?_, .int _ _ (wf_wrap _ _)⟩
    have e : binOp .andNot t (.int k x) (.int k y) = Op.intBits .andNot k x y := by simp [binOp]
    simp only [Sem.run_bind, eqGuard_int, Result.andThen_ok, e]
    rfl
  all_goals first
    | (subst h
       refine ⟨_, fun _ _ => by first | (simp [eqGuard_int, binOp, Op.intArith, Op.intBits, Op.intCmp]; rfl) | (simp only [Sem.run_bind, eqGuard_int, Result.andThen_ok, binOp, ne_eq, not_true_eq_false, if_false, Op.intBits, Sem.run_pure]; done) | (simp only [Sem.run_bind, eqGuard_int, Result.andThen_ok, binOp, ne_eq, not_true_eq_false, if_false, Op.intBits, Sem.run_pure]; rfl), ?_⟩
       first | exact .int _ _ (wf_wrap _ _) | exact .bool _)
    | (replace h := And.intro h.1 h.2
       obtain ⟨hne, h⟩ := h
       subst h
       refine ⟨_, fun _ _ => by simp [eqGuard_int, binOp, Op.intDiv, hne]; rfl, ?_⟩
       first | exact .int _ _ (wf_wrap _ _) | exact .int _ _ (wf_tmod _ _ _ hx))

theorem shift_gives {tt : TT} {k k' : IntKind} {op : BinOp} {t : TypeId} {x y : Int} (hx : (Lit.int k x).wf = true) (hs : isShift op = true) {c : Bool} {v : SV}
    (h : shiftOp op k x y = some (.sv c v)) (hc : c = true) : BinGives P tt ι M w op t (.int k x) (.int k' y) v := by
  subst hc
  unfold shiftOp at h
  cases op <;> simp [isShift] at hs
  all_goals
    simp only [Option.some.injEq, Out.sv.injEq, decide_eq_true_eq] at h
    obtain ⟨hne, rfl⟩ := h
    have hn : ¬ y < 0 := by omega
    refine ⟨_, fun _ _ => by simp [eqGuard_int, binOp, Op.shift, hn]; rfl, ?_⟩
    first | exact .int _ _ (wf_wrap _ _) | exact .int _ _ (wf_fdiv _ _ _ hx)

theorem ba_toList (s : ByteArray) : s.toList = s.data.toList := by
  exact ByteArray.toList_eq s

theorem beqL (l m : List UInt8) : (l == m) = decide (l = m) := by
  rw [Bool.eq_iff_iff]; simp
theorem run_equalIn_bool {t : TypeId} (ht : P.underlying t = some .bool) (d : Nat) (x y : Bool) : (Op.equalIn (d + 1) t (.bool x) (.bool y)).run P w = .ok (x == y) w := by
  simp [Op.equalIn, run_underlying ht]
theorem run_equal_bool {t : TypeId} (ht : P.underlying t = some .bool) (x y : Bool) : (Op.equal t (.bool x) (.bool y)).run P w = .ok (x == y) w := run_equalIn_bool ht 9999 x y

theorem str_gives {tt : TT} {op : BinOp} {t : TypeId} {x y : ByteArray} (hx : x.size ≤ maxLen) (hy : y.size ≤ maxLen) {c : Bool} {v : SV}
    (h : strOp op x.data.toList y.data.toList = some (.sv c v)) (hc : c = true) : BinGives P tt ι M w op t (.string x) (.string y) v := by
  subst hc
  have hlx : x.data.toList.length = x.size := by rw [Array.length_toList]; rfl
  have hly : y.data.toList.length = y.size := by rw [Array.length_toList]; rfl
  unfold strOp at h
  cases op <;> simp only [Option.some.injEq, Out.sv.injEq, decide_eq_true_eq, true_and, reduceCtorEq] at h
  case add =>
    obtain ⟨hne, h⟩ := h
    subst h
    have hsz : ¬ ((x.size + y.size : Nat) : Int) > IntKind.i64.max := by
      rw [hlx, hly] at hne
      simp only [lim] at hne
      have : IntKind.i64.max = 9223372036854775807 := by decide
      omega
    refine ⟨.string (x ++ y), fun _ _ => ?_, ?_⟩
    · simp only [Sem.run_bind, eqGuard_str, Result.andThen_ok, binOp, Op.stringOp]
      rw [if_neg hsz]; rfl
    · have e : x.data.toList ++ y.data.toList = (x ++ y).data.toList := by simp
      rw [e]
      refine .str _ ?_
      rw [hlx, hly] at hne
      have : (x ++ y).size = x.size + y.size := by simp
      simp only [lim] at hne
      have : maxLen = 9223372036854775807 := by decide
      omega
  all_goals
    subst h
    refine ⟨_, fun _ _ => by simp only [Sem.run_bind, eqGuard_str, Result.andThen_ok, binOp, Op.stringOp, Sem.run_pure]; rfl, ?_⟩
    simp only [ba_toList, beqL]
    exact .bool _

theorem bool_gives {tt : TT} {op : BinOp} {t : TypeId} (ht : P.underlying t = some .bool) {x y : Bool} {c : Bool} {v : SV}
    (h : boolOp op x y = some (.sv c v)) (hc : c = true) : BinGives P tt ι M w op t (.bool x) (.bool y) v := by
  subst hc
  unfold boolOp at h
  cases op <;> simp only [Option.some.injEq, Out.sv.injEq, true_and, reduceCtorEq] at h
  all_goals
    subst h
    refine ⟨_, fun _ _ => by simp only [Sem.run_bind, eqGuard_bool, Result.andThen_ok, binOp, run_equal_bool ht, Sem.run_pure]; rfl, ?_⟩
    exact .bool _

theorem bin_gives {tt : TT} (hT : TTok P tt) {op : BinOp} {t : TypeId} {s1 s2 : SV} {u1 u2 : Value} (h1 : SVRel tt ι M s1 u1) (h2 : SVRel tt ι M s2 u2) {c : Bool} {v : SV} (h : binO tt op t s1 s2 = some (.sv c v)) (hc : c = true) :
    BinGives P tt ι M w op t u1 u2 v := by
  unfold binO at h
  split at h
  · obtain ⟨rfl, h4, h5⟩ := Rep.inv_int h1
    obtain ⟨rfl, h6, h7⟩ := Rep.inv_int h2
    cases hs : isShift op with
    | true => rw [hs] at h; exact shift_gives h5 hs h hc
    | false =>
      rw [hs] at h
      replace h := cond_some.1 h
      obtain ⟨he, h⟩ := h
      have he := ikEq_iff.1 he
      subst he
      exact int_gives h5 h7 hs h hc
  · obtain ⟨x, rfl, h4, h5⟩ := Rep.inv_str h1
    obtain ⟨y, rfl, h6, h7⟩ := Rep.inv_str h2
    subst h4 h6
    exact str_gives h5 h7 h hc
  · obtain ⟨rfl, h4⟩ := Rep.inv_bool h1
    obtain ⟨rfl, h6⟩ := Rep.inv_bool h2
    split at h
    · rename_i ti ht
      replace h := cond_some.1 h
      obtain ⟨he, h⟩ := h
      have he := KT.eq_iff.1 he
      have hu := (hT t ti ht).under
      rw [he] at hu
      exact bool_gives hu.1 h hc
    · cases h
  · cases h

end
end Go.Proofs.YtjofkhdnidjleabDoor.DS
