/- Escaping of HTML, in plain words, and that a function which does it may stand in a program's run. -/
import Derived.Test.YtcmeincdmphaoaaDoorF9
set_option linter.unusedVariables false
set_option linter.unusedSimpArgs false
namespace Go.Proofs.YtcmeincdmphaoaaDoor.DS
/-- What stands for a byte. -/
def escB (b : UInt8) : List UInt8 := if b = 38 then [38, 97, 109, 112, 59] else if b = 60 then [38, 108, 116, 59] else if b = 62 then [38, 103, 116, 59] else if b = 34 then [38, 113, 117, 111, 116, 59] else [b]
def escT (L : List UInt8) : List UInt8 := L.flatMap escB
def xEscape : List D → Option (List D)
  | [.str s] => cond (decide (s.length ≤ 68719476736)) (some [.str (escT s)]) none
  | _ => none
theorem escT_len (L : List UInt8) : (escT L).length ≤ 6 * L.length := by
  induction L with
  | nil => simp [escT]
  | cons b L ih =>
    have h : escT (b :: L) = escB b ++ escT L := by simp [escT]
    have hb : (escB b).length ≤ 6 := by unfold escB; (repeat' split) <;> simp
    rw [h, List.length_append, List.length_cons]; omega
section
variable {P : Program} {E : Env}
theorem extEscape {f : Nat} {fn : Func} {c : Code} (hf : P.funcs[f]? = some fn) (hn : (fn.name == "runtime.NumGoroutine") = false) (hb : fn.body = some c) (hs : lk f E.sigs = some ⟨[.val .str], [.val .str], false⟩)
    (hc : ∀ (w : World) (s : ByteArray), s.size ≤ 68719476736 → Calls P f #[.string s] w fun e w' => e = .returned (.string ⟨(escT s.data.toList).toArray⟩) ∧ Go.RowKit.Below w.heap.size w w')
    {W0 : World} : ExtOK P E W0 f xEscape := by
  refine ext_grow (ks := [.str]) hf hn hb hs rfl rfl fun ds r hr w M vs hS hM ha => ?_
  unfold xEscape at hr
  split at hr
  · rename_i a
    obtain ⟨hl, hr⟩ := cond_some.1 hr
    simp only [decide_eq_true_eq] at hl
    injection hr with hr
    subst hr
    replace ha : ArgsRep E.tt M [.val .str] vs [.str a] := ha
    obtain ⟨v1, vs, x1, xs, rfl, e, h1, ha⟩ := args_cons ha
    injection e with e3 e4; subst e3 e4
    obtain ⟨rfl, _⟩ := args_nil ha
    obtain ⟨s, rfl, e1, _⟩ := h1.inv_str
    injection e1 with e1
    subst e1
    have hl' : s.size ≤ 68719476736 := by simpa using hl
    refine (hc w s hl').mono fun e w' he => ?_
    obtain ⟨rfl, hB⟩ := he
    refine ⟨[_], rfl, hB, ?_, trivial⟩
    have hlen := escT_len s.data.toList
    refine .str ⟨_⟩ ?_
    show (escT s.data.toList).toArray.size ≤ maxLen
    have e : maxLen = 9223372036854775807 := by decide
    simp only [List.size_toArray]
    omega
  · cases hr
end
end Go.Proofs.YtcmeincdmphaoaaDoor.DS
