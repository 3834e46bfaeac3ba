/- Functions of the library, by contracts: more of them. -/
import Derived.Test.YthbncndefigidaaDoorDtM
import Derived.Lib.IndexLaws
set_option linter.unusedVariables false
set_option linter.unusedSimpArgs false
namespace Go.Proofs.YthbncndefigidaaDoor.DS

section
variable {P : Program} {E : Env}
/-- A function of plain data that leaves the world as it was. -/
theorem ext_pure {f : Nat} {fn : Func} {c : Code} (hf : P.funcs[f]? = some fn) (hn : (fn.name == "runtime.NumGoroutine") = false) (hb : fn.body = some c) {ps : List PM} {k : KT} (hs : lk f E.sigs = some ⟨ps, [.val k], false⟩) (hp : allValP ps = true) {g : List D → Option (List D)}
    (h : ∀ ds r, g ds = some r → ∃ d, r = [d] ∧ ∀ M vs, ArgsRep E.tt M ps vs (canonA ps ds) → ∃ v, (∀ M', Rep E.tt M' k v d) ∧ ∀ w, Calls P f vs.toArray w fun e w' => e = .returned v ∧ w' = w) {W0 : World} : ExtOK P E W0 f g := by
  intro sg ds r hsg hr w M vs X hS hX ha
  rw [hs] at hsg; injection hsg with hsg; subst hsg
  obtain ⟨d, rfl, h2⟩ := h ds r hr
  obtain ⟨ha, hM⟩ := vals_of hp ha
  obtain ⟨v, h3, h4⟩ := h2 M vs ha
  refine calls_enter hf hn hb ((h4 w).mono fun e w' he => ?_)
  obtain ⟨rfl, rfl⟩ := he
  exact ⟨v, rfl, ret_of hp (ret_one hM (h3 M))⟩

theorem indexByte_le (l : List UInt8) (c : UInt8) : Lib.indexByte l c ≤ l.length := by
  induction l with
  | nil => simp [Lib.indexByte]
  | cons b l ih =>
    simp only [Lib.indexByte, List.length_cons]
    split
    · omega
    · split <;> omega
theorem indexByte_wf {l : List UInt8} (h : l.length ≤ maxLen) (c : UInt8) : (Lit.int .i64 (Lib.indexByte l c)).wf = true := by
  have h1 := Lib.indexByte_ge l c
  have h2 := indexByte_le l c
  have h3 : maxLen = 9223372036854775807 := by decide
  simp only [Lit.wf, IntKind.min, IntKind.max, IntKind.signed, IntKind.bits, Bool.and_eq_true, decide_eq_true_eq, if_true]
  omega

def xIndexByte : List D → Option (List D)
  | [.str a, .int c] => some [.int (Lib.indexByte a c.toNat.toUInt8)]
  | _ => none
/-- strings.Contains of one byte. -/
def xContains1 : List D → Option (List D)
  | [.str a, .str [c]] => some [.bool (decide (0 ≤ Lib.indexByte a c))]
  | _ => none
theorem extIndexByte {f : Nat} {fn : Func} {c : Code} (hf : P.funcs[f]? = some fn) (hn : (fn.name == "runtime.NumGoroutine") = false) (hb : fn.body = some c) (hs : lk f E.sigs = some ⟨[.val .str, .val (.int .u8)], [.val (.int .i64)], false⟩)
    (hc : ∀ (s : ByteArray) (c : Int) (w : World), Calls P f #[.string s, .int .u8 c] w fun e w' => e = .returned (.int .i64 (Lib.indexByte s.data.toList c.toNat.toUInt8)) ∧ w' = w) {W0 : World} : ExtOK P E W0 f xIndexByte := by
  refine ext_pure hf hn hb hs rfl fun ds r hr => ?_
  unfold xIndexByte at hr
  split at hr
  · rename_i a c
    injection hr with hr
    refine ⟨_, hr.symm, fun M vs ha => ?_⟩
    replace ha : ArgsRep E.tt M [.val .str, .val (.int .u8)] vs [.str a, .int c] := ha
    obtain ⟨v1, vs, x1, xs, rfl, e, h1, ha⟩ := args_cons ha
    injection e with e3 e4; subst e3 e4
    obtain ⟨v2, vs, x2, xs, rfl, e, h2, ha⟩ := args_cons ha
    injection e with e3 e4; subst e3 e4
    obtain ⟨rfl, _⟩ := args_nil ha
    cases h1 with
    | str s hsz =>
      cases h2 with
      | int _ n hw =>
        exact ⟨_, fun M' => .int _ _ (indexByte_wf (by rw [Array.length_toList]; exact hsz) _), fun w => hc s c w⟩
  · cases hr
theorem extContains1 {f : Nat} {fn : Func} {c : Code} (hf : P.funcs[f]? = some fn) (hn : (fn.name == "runtime.NumGoroutine") = false) (hb : fn.body = some c) (hs : lk f E.sigs = some ⟨[.val .str, .val .str], [.val .bool], false⟩)
    (hc : ∀ (s : ByteArray) (c : UInt8) (w : World), Calls P f #[.string s, .string ⟨#[c]⟩] w fun e w' => e = .returned (.bool (decide (0 ≤ Lib.indexByte s.data.toList c))) ∧ w' = w) {W0 : World} : ExtOK P E W0 f xContains1 := by
  refine ext_pure hf hn hb hs rfl fun ds r hr => ?_
  unfold xContains1 at hr
  split at hr
  · rename_i a c
    injection hr with hr
    refine ⟨_, hr.symm, fun M vs ha => ?_⟩
    replace ha : ArgsRep E.tt M [.val .str, .val .str] vs [.str a, .str [c]] := ha
    obtain ⟨v1, vs, x1, xs, rfl, e, h1, ha⟩ := args_cons ha
    injection e with e3 e4; subst e3 e4
    obtain ⟨v2, vs, x2, xs, rfl, e, h2, ha⟩ := args_cons ha
    injection e with e3 e4; subst e3 e4
    obtain ⟨rfl, _⟩ := args_nil ha
    obtain ⟨s, rfl, e1, _⟩ := h1.inv_str
    obtain ⟨t, rfl, e2, _⟩ := h2.inv_str
    injection e1 with e1; injection e2 with e2
    subst e1
    have ht : t = ⟨#[c]⟩ := by
      cases t with
      | mk d => congr 1; apply Array.toList_inj.1; rw [← e2]
    subst ht
    exact ⟨_, fun M' => .bool _, fun w => hc s c w⟩
  · cases hr
end
end Go.Proofs.YthbncndefigidaaDoor.DS
