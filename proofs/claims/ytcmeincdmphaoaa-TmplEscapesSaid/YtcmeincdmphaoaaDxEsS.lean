/- The library's functions and mark.Escape, as the law TmplEscapes wants them. -/
import Derived.Test.YtcmeincdmphaoaaDxRpG
import Derived.Test.YtcmeincdmphaoaaDxRpY
set_option linter.unusedVariables false
set_option linter.unusedSimpArgs false
namespace Go.Proofs
open Go.RowKit
open Go.Proofs.Ytcmeincdmphaoaa.DS
theorem Try.strings_IndexAny_all (s chars : ByteArray) (w : World) (h2 : 2 ≤ chars.size) (hs : s.size < 4294967281) (hcs : chars.size < 4294967281) (hac : ∀ (j : Nat) b, chars.data.toList[j]? = some b → b.toNat < 128) :
    Calls Try.prog 15 #[.string s, .string chars] w fun e w' => e = .returned (.int .i64 (Lib.indexAny s.data.toList chars.data.toList)) ∧ Below w.heap.size w w' :=
  Any.strings_IndexAny_all Try.lays153 (by kernel_rfl) s chars w h2 hs hcs hac
theorem Try.esc_eq (L : List UInt8) : Ytcmeincdmphaoaa.rp.esc (Ytcmeincdmphaoaa.rp.fOf Ytcmeincdmphaoaa.rp.escP) L = escT L := by
  unfold Ytcmeincdmphaoaa.rp.esc escT
  congr 1
  funext b
  unfold escB Ytcmeincdmphaoaa.rp.escP
  simp only [Ytcmeincdmphaoaa.rp.fOf_cons]
  have hb : ∀ c : UInt8, (c.toNat = b.toNat) ↔ b = c := fun c => ⟨fun h => (UInt8.toNat_inj.1 h).symm, fun h => by rw [h]⟩
  simp only [hb]
  repeat' split
  all_goals first | rfl | simp [Ytcmeincdmphaoaa.rp.fOf]
theorem Try.mark_Escape (w : World) (s : ByteArray) (hs : s.size ≤ 68719476736) :
    Calls Try.prog 10 #[.string s] w fun e w' => e = .returned (.string ⟨(escT s.data.toList).toArray⟩) ∧ Below w.heap.size w w' := by
  have := Ytcmeincdmphaoaa.rp.w10 (w := w) hs
  rw [Try.esc_eq] at this
  exact this
end Go.Proofs
