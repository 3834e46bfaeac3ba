/- The data-level semantics: plain data, an interpreter of the program over them, and its soundness; part 9. -/
import Derived.Shelf.Strings.IndexAnyAll
import Derived.Shelf.Small.Utf8
import Derived.Shelf.Strings.Cut
import Derived.Laws.Runes
import Derived.Test.YtcmeincdmphaoabDoorF8
import Derived.Lib.SlTrimSet
import Derived.Lib.Repeat
import Derived.Sort.OwnSorted
import Derived.Shelf.Sort.Plain
import Derived.Shelf.Slices.In.SortNone2
import Derived.Lib.Replace
import Derived.Lib.SplitLaws
import Derived.Lib.Fields
set_option linter.unusedVariables false
set_option linter.unusedSimpArgs false
namespace Go.Proofs
open Go.Shelf Go.RowKit Go.Lib
variable {P : Program} {ρ : Ren}

end Go.Proofs
namespace Go.Proofs.YtcmeincdmphaoabDoor.DS
section
variable {P : Program} {E : Env}
end
end Go.Proofs.YtcmeincdmphaoabDoor.DS

namespace Go.Proofs.YtcmeincdmphaoabDoor.DS
section
variable {P : Program} {E : Env}
end
end Go.Proofs.YtcmeincdmphaoabDoor.DS

namespace Go.Proofs.YtcmeincdmphaoabDoor.DS
section
variable {P : Program} {E : Env}
end
end Go.Proofs.YtcmeincdmphaoabDoor.DS

namespace Go.Proofs.YtcmeincdmphaoabDoor.DS
open Go.Shelf Go.RowKit Go.Proofs Go.Sort

section
variable {P : Program} {E : Env}
end
end Go.Proofs.YtcmeincdmphaoabDoor.DS

namespace Go.Proofs.YtcmeincdmphaoabDoor.DS
section
variable {P : Program} {E : Env}
end
end Go.Proofs.YtcmeincdmphaoabDoor.DS

namespace Go.Proofs.YtcmeincdmphaoabDoor.DS
/-- strings.Fields of an ASCII string. -/
def xFields : List D → Option (List D)
  | [.str s] => cond ((decide (s.length < 4294967281) && s.all fun c => decide (c.toNat < 128)) && (decide ((Lib.fields s).length ≤ 1073741824) && (Lib.fields s).all fun l => decide (l.length ≤ 1073741824))) (some [.list ((Lib.fields s).map .str)]) none
  | _ => none
section
variable {P : Program} {E : Env}
theorem extFields {f : Nat} {fn : Func} {c : Code} (hf : P.funcs[f]? = some fn) (hn : (fn.name == "runtime.NumGoroutine") = false) (hb : fn.body = some c) {e : TypeId} (hs : lk f E.sigs = some ⟨[.val .str], [.val (.slice e)], false⟩) {ei : TI} (he : lk e E.tt = some ei) (hc1 : ei.cells.length = 1) (hk : ei.kt = .str)
    (hc : ∀ (s : ByteArray) (w : World), s.size < 4294967281 → (∀ (j : Nat) b, s.data.toList[j]? = some b → b.toNat < 128) → Lib.TabIs P w "strings.asciiSpace" .u8 Lib.asciiSpaceTab →
      Calls P f #[.string s] w fun e' w' => e' = .returned (.slice (some ⟨w.heap.size, 0, none⟩) (Lib.fields s.data.toList).length (Lib.fields s.data.toList).length) ∧ w' = w.alloc (.cells ((Lib.fields s.data.toList).map fun l => Value.string ⟨l.toArray⟩).toArray e))
    {W0 : World} (ht : Lib.TabIs P W0 "strings.asciiSpace" .u8 Lib.asciiSpaceTab) : ExtOK P E W0 f xFields := by
  refine ext_grow (ks := [.slice e]) hf hn hb hs rfl rfl fun ds r hr w M vs hS hM ha => ?_
  unfold xFields at hr
  split at hr
  · rename_i a
    obtain ⟨hl, hr⟩ := cond_some.1 hr
    simp only [Bool.and_eq_true, decide_eq_true_eq, List.all_eq_true] at hl
    obtain ⟨⟨l1, l2⟩, l3, l4⟩ := hl
    injection hr with hr
    subst hr
    replace ha : ArgsRep E.tt M [.val .str] vs [.str a] := ha
    obtain ⟨v1, vs, x1, xs, rfl, e1, h1, ha⟩ := args_cons ha
    injection e1 with e3 e4; subst e3 e4
    obtain ⟨rfl, _⟩ := args_nil ha
    obtain ⟨s, rfl, e1, _⟩ := h1.inv_str
    injection e1 with e1
    subst e1
    refine (hc s w (by simpa using l1) (fun j b hj => l2 b (List.mem_of_getElem? hj)) (tab_same ht hS)).mono fun e' w' he' => ?_
    obtain ⟨rfl, rfl⟩ := he'
    refine ⟨[_], rfl, (Go.RowKit.Below.refl _ _).alloc (Nat.le_refl _) _, ?_, trivial⟩
    generalize Lib.fields s.data.toList = F at *
    have hmax : (1073741824 : Nat) ≤ maxLen := by decide
    cases F with
    | nil => exact .nil _ _ _ (Nat.zero_le _)
    | cons f0 F0 =>
      have hlen : ((f0 :: F0).map D.str).length = (f0 :: F0).length := List.length_map _
      have hrep := Rep.slice (tt := E.tt) (M := growMem M w (w.alloc (.cells ((f0 :: F0).map fun l => Value.string ⟨l.toArray⟩).toArray e))) e ei ⟨w.heap.size, 0, none⟩ (f0 :: F0).length ((f0 :: F0).map .str) (fun i => Value.string ⟨((f0 :: F0).getD i []).toArray⟩)
        (by rw [hlen]; simp) (by rw [hlen]; exact Nat.le_refl _) (Nat.le_trans l3 hmax) he rfl (fun i _ => by rw [hc1]; rfl) (fun i j u hi hu => by
          rw [hlen] at hi
          have hj : j = 0 := by
            rcases Nat.eq_zero_or_pos j with h | h
            · exact h
            · simp [Value.cells, show ¬ j = 0 by omega] at hu
          subst hj
          have hu' : u = Value.string ⟨((f0 :: F0).getD i []).toArray⟩ := by simpa [Value.cells] using hu.symm
          subst hu'
          unfold growMem
          rw [if_neg (show ¬ w.heap.size < w.heap.size from Nat.lt_irrefl _), hc1]
          have : (f0 :: F0)[i]? = some ((f0 :: F0).getD i []) := by rw [getD_eq _ _ _ hi]; exact List.getElem?_eq_getElem hi
          rw [show (0 + (i * 1 + 0)) = i by omega, World.cell?_alloc_new]
          rw [List.getElem?_toArray, List.getElem?_map, this]; rfl) (fun i hi => by
          rw [hk]
          have hi' : i < (f0 :: F0).length := by rwa [hlen] at hi
          have hm := l4 _ (List.getElem_mem hi')
          have := Rep.str (tt := E.tt) (M := growMem M w (w.alloc (.cells ((f0 :: F0).map fun l => Value.string ⟨l.toArray⟩).toArray e))) ⟨((f0 :: F0).getD i []).toArray⟩ (by
            show ((f0 :: F0).getD i []).toArray.size ≤ maxLen
            rw [List.size_toArray, getD_eq _ _ _ hi']
            exact Nat.le_trans (by simpa using hm) hmax)
          have e2 : ((f0 :: F0).map D.str)[i] = .str ((f0 :: F0).getD i []) := by rw [getD_eq _ _ _ hi', List.getElem_map]
          rw [e2]
          simpa using this)
      rw [hlen] at hrep
      exact hrep
  · cases hr
end
end Go.Proofs.YtcmeincdmphaoabDoor.DS
