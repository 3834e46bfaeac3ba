/- The data-level semantics: plain data, an interpreter of the program over them, and its soundness; part 9. -/
import Derived.Shelf.Strings.IndexAnyAll
import Derived.Shelf.Small.Utf8
import Derived.Shelf.Strings.Cut
import Derived.Laws.Runes
import Derived.Test.YtcmeincdmphaoaaGreatDoorF8
import Derived.Lib.SlTrimSet
import Derived.Lib.Repeat
import Derived.Sort.OwnSorted
import Derived.Shelf.Sort.Plain
import Derived.Shelf.Slices.In.SortNone2
import Derived.Lib.Replace
import Derived.Lib.SplitLaws
set_option linter.unusedVariables false
set_option linter.unusedSimpArgs false
namespace Go.Proofs
open Go.Shelf Go.RowKit Go.Lib
variable {P : Program} {ρ : Ren}

end Go.Proofs
namespace Go.Proofs.YtcmeincdmphaoaaGreatDoor.DS
section
variable {P : Program} {E : Env}
end
end Go.Proofs.YtcmeincdmphaoaaGreatDoor.DS

namespace Go.Proofs.YtcmeincdmphaoaaGreatDoor.DS
section
variable {P : Program} {E : Env}
end
end Go.Proofs.YtcmeincdmphaoaaGreatDoor.DS

namespace Go.Proofs.YtcmeincdmphaoaaGreatDoor.DS
section
variable {P : Program} {E : Env}
end
end Go.Proofs.YtcmeincdmphaoaaGreatDoor.DS

namespace Go.Proofs.YtcmeincdmphaoaaGreatDoor.DS
open Go.Shelf Go.RowKit Go.Proofs Go.Sort

section
variable {P : Program} {E : Env}
end
end Go.Proofs.YtcmeincdmphaoaaGreatDoor.DS

namespace Go.Proofs.YtcmeincdmphaoaaGreatDoor.DS
/-- How great strings.ReplaceAll may be. -/
def xReplaceAll : List D → Option (List D)
  | [.str s, .str old, .str new] => cond (decide (s.length < 4294967281) && (decide (1 ≤ old.length) && decide (new.length ≤ 1024))) (some [.str (Lib.replaceAll s old new)]) none
  | _ => none
section
variable {P : Program} {E : Env}
theorem replK_len (old new : List UInt8) : ∀ (k : Nat) (s : List UInt8), (Lib.replaceK old new k s).length ≤ s.length + k * new.length := by
  intro k
  induction k with
  | zero => intro s; simp [Lib.replaceK]
  | succ k ih =>
    intro s
    rw [Lib.replaceK]
    split
    · omega
    · have := ih (s.drop ((Lib.index s old).toNat + old.length))
      simp only [List.length_append, List.length_take, List.length_drop] at *
      rw [Nat.succ_mul]
      omega
theorem repl_len (s old new : List UInt8) : (Lib.replaceAll s old new).length ≤ s.length + (s.length + 1) * new.length := by
  unfold Lib.replaceAll Lib.replace
  split
  · omega
  · refine Nat.le_trans (replK_len _ _ _ _) ?_
    have : Lib.replaceNum s old (-1) ≤ s.length + 1 := by
      unfold Lib.replaceNum
      rw [if_pos (.inl (by omega))]
      exact Lib.count_le s old
    have := Nat.mul_le_mul_right new.length this
    omega
theorem extReplaceAll {f : Nat} {fn : Func} {c : Code} (hf : P.funcs[f]? = some fn) (hn : (fn.name == "runtime.NumGoroutine") = false) (hb : fn.body = some c) (hs : lk f E.sigs = some ⟨[.val .str, .val .str, .val .str], [.val .str], false⟩) {g : Addr}
    (hc : ∀ (s old new : ByteArray) (m : Int) (w : World), s.size < 4294967281 → w.cell? g = some (.int .i64 m) → 1 ≤ old.size → s.size + Lib.countB s old * new.size ≤ 140737488355328 →
      Calls P f #[.string s, .string old, .string new] w fun e w' => e = .returned (.string ⟨(Lib.replaceAll s.data.toList old.data.toList new.data.toList).toArray⟩) ∧ Go.RowKit.Below w.heap.size w w')
    {W0 : World} (hm : ∃ m, W0.cell? g = some (.int .i64 m)) : ExtOK P E W0 f xReplaceAll := by
  refine ext_grow (ks := [.str]) hf hn hb hs rfl rfl fun ds r hr w M vs hS hM ha => ?_
  unfold xReplaceAll at hr
  split at hr
  · rename_i a b d
    obtain ⟨hl, hr⟩ := cond_some.1 hr
    simp only [Bool.and_eq_true, decide_eq_true_eq] at hl
    obtain ⟨l1, l2, l3⟩ := hl
    injection hr with hr
    subst hr
    replace ha : ArgsRep E.tt M [.val .str, .val .str, .val .str] vs [.str a, .str b, .str d] := ha
    obtain ⟨v1, vs, x1, xs, rfl, e, h1, ha⟩ := args_cons ha
    injection e with e3 e4; subst e3 e4
    obtain ⟨v2, vs, x2, xs, rfl, e, h2, ha⟩ := args_cons ha
    injection e with e3 e4; subst e3 e4
    obtain ⟨v3, vs, x3, xs, rfl, e, h3, ha⟩ := args_cons ha
    injection e with e3 e4; subst e3 e4
    obtain ⟨rfl, _⟩ := args_nil ha
    obtain ⟨s, rfl, e1, _⟩ := h1.inv_str
    obtain ⟨t, rfl, e2, _⟩ := h2.inv_str
    obtain ⟨u, rfl, e3, _⟩ := h3.inv_str
    injection e1 with e1; injection e2 with e2; injection e3 with e3
    subst e1 e2 e3
    obtain ⟨m, hm⟩ := hm
    have l1' : s.size < 4294967281 := by simpa using l1
    have l2' : 1 ≤ t.size := by simpa using l2
    have l3' : u.size ≤ 1024 := by simpa using l3
    have hcb := Lib.countB_le t l2' s.size s (Nat.le_refl _)
    have hmul : Lib.countB s t * u.size ≤ 4294967281 * 1024 := Nat.mul_le_mul (by omega) l3'
    refine (hc s t u m w l1' (same_cell hS hm) l2' (by omega)).mono fun e w' he => ?_
    obtain ⟨rfl, hB⟩ := he
    refine ⟨[_], rfl, hB, ?_, trivial⟩
    have hlen := repl_len s.data.toList t.data.toList u.data.toList
    refine .str ⟨_⟩ ?_
    show (Lib.replaceAll s.data.toList t.data.toList u.data.toList).toArray.size ≤ maxLen
    have e : maxLen = 9223372036854775807 := by decide
    have h4 : (s.data.toList.length + 1) * u.data.toList.length ≤ 4294967282 * 1024 := Nat.mul_le_mul (by omega) l3
    simp only [List.size_toArray]
    omega
  · cases hr
end
end Go.Proofs.YtcmeincdmphaoaaGreatDoor.DS
