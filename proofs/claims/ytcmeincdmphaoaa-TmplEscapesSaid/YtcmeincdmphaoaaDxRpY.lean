/- strings.IndexAny at a set of two or more ASCII bytes. -/
import Derived.Test.YtcmeincdmphaoaaF9
set_option linter.unusedVariables false
set_option linter.unusedSimpArgs false
namespace Go.Proofs.Ytcmeincdmphaoaa.DS
/-- What stands for a byte. -/
def escB (b : UInt8) : List UInt8 := if b = 38 then [38, 97, 109, 112, 59] else if b = 60 then [38, 108, 116, 59] else if b = 62 then [38, 103, 116, 59] else if b = 34 then [38, 113, 117, 111, 116, 59] else [b]
def escT (L : List UInt8) : List UInt8 := L.flatMap escB
def xEscape : List D → Option (List D)
  | [.str s] => cond (decide (s.length ≤ 68719476736)) (some [.str (escT s)]) none
  | _ => none
theorem escT_len (L : List UInt8) : (escT L).length ≤ 6 * L.length := by
  induction L with
  | nil => simp [escT]
  | cons b L ih =>
    have h : escT (b :: L) = escB b ++ escT L := by simp [escT]
    have hb : (escB b).length ≤ 6 := by unfold escB; (repeat' split) <;> simp
    rw [h, List.length_append, List.length_cons]; omega
section
variable {P : Program} {E : Env}
theorem extEscape {f : Nat} {fn : Func} {c : Code} (hf : P.funcs[f]? = some fn) (hn : (fn.name == "runtime.NumGoroutine") = false) (hb : fn.body = some c) (hs : lk f E.sigs = some ⟨[.val .str], [.val .str], false⟩)
    (hc : ∀ (w : World) (s : ByteArray), s.size ≤ 68719476736 → Calls P f #[.string s] w fun e w' => e = .returned (.string ⟨(escT s.data.toList).toArray⟩) ∧ Go.RowKit.Below w.heap.size w w')
    {W0 : World} : ExtOK P E W0 f xEscape := by
  refine ext_grow (ks := [.str]) hf hn hb hs rfl rfl fun ds r hr w M vs hS hM ha => ?_
  unfold xEscape at hr
  split at hr
  · rename_i a
    obtain ⟨hl, hr⟩ := cond_some.1 hr
    simp only [decide_eq_true_eq] at hl
    injection hr with hr
    subst hr
    replace ha : ArgsRep E.tt M [.val .str] vs [.str a] := ha
    obtain ⟨v1, vs, x1, xs, rfl, e, h1, ha⟩ := args_cons ha
    injection e with e3 e4; subst e3 e4
    obtain ⟨rfl, _⟩ := args_nil ha
    obtain ⟨s, rfl, e1, _⟩ := h1.inv_str
    injection e1 with e1
    subst e1
    have hl' : s.size ≤ 68719476736 := by simpa using hl
    refine (hc w s hl').mono fun e w' he => ?_
    obtain ⟨rfl, hB⟩ := he
    refine ⟨[_], rfl, hB, ?_, trivial⟩
    have hlen := escT_len s.data.toList
    refine .str ⟨_⟩ ?_
    show (escT s.data.toList).toArray.size ≤ maxLen
    have e : maxLen = 9223372036854775807 := by decide
    simp only [List.size_toArray]
    omega
  · cases hr
end
end Go.Proofs.Ytcmeincdmphaoaa.DS

namespace Go.Proofs
open Go.RowKit Go.Lib
variable {P : Program} {ρ : Shelf.Ren}
set_option maxHeartbeats 1000000 in
theorem Any.strings_IndexAny_all (L : Lays.n153 P ρ) (h116 : (P.info? (ρ.t 116)).map (fun i => (i.zero, i.size)) = some (some (.agg (Array.replicate 256 (.bool false))), 256)) (s chars : ByteArray) (w : World) (h2 : 2 ≤ chars.size) (hs : s.size < 4294967281) (hcs : chars.size < 4294967281)
    (hac : ∀ (j : Nat) b, chars.data.toList[j]? = some b → b.toNat < 128) :
    Calls P (ρ.f 153) #[.string s, .string chars] w fun e w' => e = .returned (.int .i64 (Lib.indexAny s.data.toList chars.data.toList)) ∧ Below w.heap.size w w' := by
  by_cases h8 : s.size ≤ 8
  · exact Any.strings_IndexAny_short_all { L with } s chars w h2 h8 hcs hac
  · refine (Any.strings_IndexAny_long { L with } (zero_of_info h116).1 (zero_of_info h116).2 s chars w (by omega) (by omega) hs hcs hac).mono fun e w' ⟨h1, h2⟩ => ⟨h1, ?_⟩
    rw [h2]
    exact ((Below.refl _ _).alloc (Nat.le_refl _) _).alloc (by simp) _
end Go.Proofs
namespace Go.Proofs.Ytcmeincdmphaoaa.DS
theorem indexAny_le (chars : List UInt8) : ∀ l : List UInt8, Lib.indexAny l chars ≤ l.length
  | [] => by unfold Lib.indexAny; simp
  | b :: l => by
    have ih := indexAny_le chars l
    unfold Lib.indexAny
    rw [List.length_cons]
    split
    · omega
    · split <;> omega
def xIndexAny : List D → Option (List D)
  | [.str a, .str cs] => cond (decide (2 ≤ cs.length) && (decide (cs.length ≤ 100) && (decide (a.length ≤ 1073741824) && cs.all fun c => decide (c.toNat < 128)))) (some [.int (Lib.indexAny a cs)]) none
  | _ => none
section
variable {P : Program} {E : Env}
theorem extIndexAny {f : Nat} {fn : Func} {c : Code} (hf : P.funcs[f]? = some fn) (hn : (fn.name == "runtime.NumGoroutine") = false) (hb : fn.body = some c) (hs : lk f E.sigs = some ⟨[.val .str, .val .str], [.val (.int .i64)], false⟩)
    (hc : ∀ (s chars : ByteArray) (w : World), 2 ≤ chars.size → s.size < 4294967281 → chars.size < 4294967281 → (∀ (j : Nat) b, chars.data.toList[j]? = some b → b.toNat < 128) → Calls P f #[.string s, .string chars] w fun e w' => e = .returned (.int .i64 (Lib.indexAny s.data.toList chars.data.toList)) ∧ Go.RowKit.Below w.heap.size w w')
    {W0 : World} : ExtOK P E W0 f xIndexAny := by
  refine ext_grow (ks := [.int .i64]) hf hn hb hs rfl rfl fun ds r hr w M vs hS hM ha => ?_
  unfold xIndexAny at hr
  split at hr
  · rename_i a cs
    cases hl : (decide (2 ≤ cs.length) && (decide (cs.length ≤ 100) && (decide (a.length ≤ 1073741824) && cs.all fun c => decide (c.toNat < 128)))) with
    | false => rw [hl] at hr; cases hr
    | true =>
      rw [hl] at hr
      simp only [Bool.and_eq_true, decide_eq_true_eq, List.all_eq_true] at hl
      obtain ⟨l1, l2, l3, l4⟩ := hl
      injection hr with hr
      subst hr
      replace ha : ArgsRep E.tt M [.val .str, .val .str] vs [.str a, .str cs] := ha
      obtain ⟨v1, vs, x1, xs, rfl, e, h1, ha⟩ := args_cons ha
      injection e with e3 e4; subst e3 e4
      obtain ⟨v2, vs, x2, xs, rfl, e, h2, ha⟩ := args_cons ha
      injection e with e3 e4; subst e3 e4
      obtain ⟨rfl, _⟩ := args_nil ha
      obtain ⟨s, rfl, e1, hsz⟩ := h1.inv_str
      obtain ⟨t, rfl, e2, _⟩ := h2.inv_str
      injection e1 with e1; injection e2 with e2
      subst e1 e2
      rw [Array.length_toList] at l1 l2 l3
      have q1 : 2 ≤ t.size := l1
      have q2 : t.size ≤ 100 := l2
      have q3 : s.size ≤ 1073741824 := l3
      refine (hc s t w q1 (by omega) (by omega) (fun j b hj => l4 b (List.mem_of_getElem? hj))).mono fun e w' he => ?_
      obtain ⟨rfl, hB⟩ := he
      refine ⟨[_], rfl, hB, ?_, trivial⟩
      have hg := Lib.indexAny_ge t.data.toList s.data.toList
      have hlt : Lib.indexAny s.data.toList t.data.toList ≤ s.data.toList.length := indexAny_le _ _
      rw [Array.length_toList] at hlt
      have hz : s.data.size = s.size := rfl
      refine .int .i64 _ ?_
      simp only [Lit.wf, IntKind.min, IntKind.max, IntKind.signed, IntKind.bits, Bool.and_eq_true, decide_eq_true_eq, if_true]
      omega
  · cases hr
end
end Go.Proofs.Ytcmeincdmphaoaa.DS
