/- The data-level semantics: plain data, an interpreter of the program over them, and its soundness; part 9. -/
import Derived.Shelf.Strings.IndexAnyAll
import Derived.Shelf.Small.Utf8
import Derived.Shelf.Strings.Cut
import Derived.Laws.Runes
import Derived.Test.YtcmeincdmphaoaaGreatDoorF8
import Derived.Lib.SlTrimSet
import Derived.Lib.Repeat
import Derived.Sort.OwnSorted
import Derived.Shelf.Sort.Plain
import Derived.Shelf.Slices.In.SortNone2
import Derived.Lib.Replace
import Derived.Lib.SplitLaws
import Derived.Lib.Fields
import Derived.Lib.Atoi
import Derived.Lib.AtoiErrMem
set_option linter.unusedVariables false
set_option linter.unusedSimpArgs false
namespace Go.Proofs
open Go.Shelf Go.RowKit Go.Lib
variable {P : Program} {ρ : Ren}

end Go.Proofs
namespace Go.Proofs.YtcmeincdmphaoaaGreatDoor.DS
section
variable {P : Program} {E : Env}
end
end Go.Proofs.YtcmeincdmphaoaaGreatDoor.DS

namespace Go.Proofs.YtcmeincdmphaoaaGreatDoor.DS
section
variable {P : Program} {E : Env}
end
end Go.Proofs.YtcmeincdmphaoaaGreatDoor.DS

namespace Go.Proofs.YtcmeincdmphaoaaGreatDoor.DS
section
variable {P : Program} {E : Env}
end
end Go.Proofs.YtcmeincdmphaoaaGreatDoor.DS

namespace Go.Proofs.YtcmeincdmphaoaaGreatDoor.DS
open Go.Shelf Go.RowKit Go.Proofs Go.Sort

section
variable {P : Program} {E : Env}
end
end Go.Proofs.YtcmeincdmphaoaaGreatDoor.DS

namespace Go.Proofs.YtcmeincdmphaoaaGreatDoor.DS
section
variable {P : Program} {E : Env}
end
end Go.Proofs.YtcmeincdmphaoaaGreatDoor.DS

namespace Go.Proofs.YtcmeincdmphaoaaGreatDoor.DS
section
variable {P : Program} {E : Env}
end
end Go.Proofs.YtcmeincdmphaoaaGreatDoor.DS

namespace Go.Proofs.YtcmeincdmphaoaaGreatDoor.DS
/-- strconv.Atoi: the number; nil, which no one reads. -/
def xAtoi : List D → Option (List D)
  | [.str s] => cond (decide (s.length ≤ 18)) (match Lib.atoi s with
      | some n => cond (decide (-9223372036854775808 ≤ n) && decide (n ≤ 9223372036854775807)) (some [.int n, .no]) none
      | none => none) none
  | _ => none
section
variable {P : Program} {E : Env}
theorem ret_any {w w' : World} {M : Mem} {k : KT} {u x : Value} {d : D} (hM : ∀ ad v, M ad = some v → w.cell? ad = some v) (hB : Go.RowKit.Below w.heap.size w w') (h : Rep E.tt (growMem M w w') k u d) : RetV E w M [.val k, .any] [d, .no] (.tuple #[u, x]) w' := by
  intro base svs os hr
  simp only [resSV, opt] at hr
  injection hr with hr; injection hr with h1 h2; subst h1 h2
  refine ⟨fun _ => undef, growMem M w w', HRel.grow hM hB _, [u, x], rfl, rfl, fun i s y hs hy => ?_⟩
  match i, hs, hy with
  | 0, hs, hy =>
    simp at hs hy; subst hs hy
    show Rep E.tt _ k u (canon k d)
    rw [h.canon]; exact h
  | 1, hs, hy =>
    simp at hs hy; subst hs
    exact trivial
  | i + 2, hs, _ => simp at hs
theorem extAtoi {f : Nat} {fn : Func} {c : Code} (hf : P.funcs[f]? = some fn) (hn : (fn.name == "runtime.NumGoroutine") = false) (hb : fn.body = some c) (hs : lk f E.sigs = some ⟨[.val .str], [.val (.int .i64), .any], false⟩) {e : TypeId}
    (hc : ∀ (s : ByteArray) (n : Int) (_ : s.size ≤ 18) (_ : Lib.atoi s.data.toList = some n) (w : World), Calls P f #[.string s] w fun e' w' => e' = .returned (.tuple #[.int .i64 n, .nilIface]) ∧ ∃ t, w' = Lib.bytesWorld w e t)
    {W0 : World} : ExtOK P E W0 f xAtoi := by
  intro sg ds r hsg hr w M vs X hS hX ha
  rw [hs] at hsg; injection hsg with hsg; subst hsg
  obtain ⟨ha2, hM⟩ := vals_of (ps := [.val .str]) rfl ha
  clear ha
  have ha := ha2
  clear ha2
  unfold xAtoi at hr
  split at hr
  · rename_i s
    obtain ⟨hl, hr⟩ := cond_some.1 hr
    split at hr
    · rename_i n hn2
      obtain ⟨hw, hr⟩ := cond_some.1 hr
      injection hr with hr
      subst hr
      replace ha : ArgsRep E.tt M [.val .str] vs [.str s] := ha
      obtain ⟨v1, vs, x1, xs, rfl, e, h1, ha⟩ := args_cons ha
      injection e with e3 e4; subst e3 e4
      obtain ⟨rfl, _⟩ := args_nil ha
      obtain ⟨s', rfl, e1, _⟩ := h1.inv_str
      injection e1 with e1
      subst e1
      simp only [Bool.and_eq_true, decide_eq_true_eq] at hw hl
      refine calls_enter hf hn hb ((hc s' n (by simpa using hl) hn2 w).mono fun e w' he => ?_)
      obtain ⟨rfl, t, rfl⟩ := he
      refine ⟨_, rfl, ret_of (ps := [.val .str]) rfl (ret_any hM (Lib.bytesWorld_below w _ t) (.int .i64 n ?_))⟩
      simp only [Lit.wf, IntKind.min, IntKind.max, IntKind.signed, IntKind.bits, Bool.and_eq_true, decide_eq_true_eq, if_true]
      omega
    · cases hr
  · cases hr
end
end Go.Proofs.YtcmeincdmphaoaaGreatDoor.DS
