/-
  DERIVED. GIVEN WITH THE SEED: THE CARDS: each row of YtcmeincdmphaoaaDoorRows.lean that lists a variable, with what it lists TIED to the program's text (the seventh form; the later family's looks); each row that meets fmt, with fmt's text TOLD by the authors' own Lean function (tested against real Go, not proved from fmt's source: count such statements apart). THE CARD IS WHAT COUNTS. Prove the row's statement (the work); the ties are given (YtcmeincdmphaoaaDoorTie.lean); close each card by the builder's one call (the guide's Derived/Test/ToyasCard.lean, 'card_holds'). Laid BY PROGRAM, IN A SANDBOX (cutbox-door.mjs). By AI agents, Wed Nov 11 2026. No macro, syntax, notation, axiom, sorry.
-/
import Derived.Test.YtcmeincdmphaoaaDoorRows
import GoSem.ClaimSeven
namespace Go.Proofs.YtcmeincdmphaoaaDoor
namespace Rows

/-- THE TIED CARD OF 'mastlaw1.ShipMaps'. -/
def shipMapsCard : Claim7 := { stood := { row := shipMapsRow, standIns := [], harness := (true, "2bccad78c0751a37209022f72ec4a77d5e5f2491c3fe6bc712b89042306334b0"), looks := true }, kinds := [], alts := [], laidByText := true, laidKinds := [.data, .pinned], laidTests := true, laidLooks := .later }
def ShipMapsCardSaid : Prop := Claim7.holds Tryd.pinned (.plain (OpenSpec.ofChange shipMapsSpec)) shipMapsCard

/-- THE SECOND FORM's CARD OF 'mastlaw1.ShipMaps'. -/
def shipMapsUptoCard : Claim7 := { stood := { row := shipMapsUptoRow, standIns := [], harness := (true, "2bccad78c0751a37209022f72ec4a77d5e5f2491c3fe6bc712b89042306334b0"), looks := true }, kinds := [], alts := [], laidByText := true, laidKinds := [.data, .pinned], laidTests := true, laidLooks := .later }
def ShipMapsUptoCardSaid : Prop := Claim7.holds Tryd.pinned (.plain (OpenSpec.upto shipMapsSpec)) shipMapsUptoCard
end Rows
end Go.Proofs.YtcmeincdmphaoaaDoor
