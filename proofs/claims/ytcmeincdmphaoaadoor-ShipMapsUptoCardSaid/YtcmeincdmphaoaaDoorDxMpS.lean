/- The library's functions and mark.Escape, as the law ShipMaps wants them. -/
import Derived.Test.YtcmeincdmphaoaaDoorDxRqT
import Derived.Test.YtcmeincdmphaoaaDoorDxRpX
import Derived.Test.YtcmeincdmphaoaaDoorF9
set_option linter.unusedVariables false
set_option linter.unusedSimpArgs false
namespace Go.Proofs
open Go.RowKit
open Go.Proofs.YtcmeincdmphaoaaDoor.DS
theorem Tryd.esc_eq (L : List UInt8) : YtcmeincdmphaoaaDoor.rp.esc (YtcmeincdmphaoaaDoor.rp.fOf YtcmeincdmphaoaaDoor.rp.escP) L = escT L := by
  unfold YtcmeincdmphaoaaDoor.rp.esc escT
  congr 1
  funext b
  unfold escB YtcmeincdmphaoaaDoor.rp.escP
  simp only [YtcmeincdmphaoaaDoor.rp.fOf_cons]
  have hb : ∀ c : UInt8, (c.toNat = b.toNat) ↔ b = c := fun c => ⟨fun h => (UInt8.toNat_inj.1 h).symm, fun h => by rw [h]⟩
  simp only [hb]
  repeat' split
  all_goals first | rfl | simp [YtcmeincdmphaoaaDoor.rp.fOf]
theorem Tryd.mark_Escape (w : World) (s : ByteArray) (hs : s.size ≤ 68719476736) :
    Calls Tryd.prog 12 #[.string s] w fun e w' => e = .returned (.string ⟨(escT s.data.toList).toArray⟩) ∧ Below w.heap.size w w' := by
  have := YtcmeincdmphaoaaDoor.rp.w10 (w := w) hs
  rw [Tryd.esc_eq] at this
  exact this
end Go.Proofs
