/-
  DERIVED. GIVEN WITH THE SEED: THE CARDS: each row of YtcmeincdmphaoabDoorRows.lean that lists a variable, with what it lists TIED to the program's text (the seventh form; the later family's looks); each row that meets fmt, with fmt's text TOLD by the authors' own Lean function (tested against real Go, not proved from fmt's source: count such statements apart). THE CARD IS WHAT COUNTS. Prove the row's statement (the work); the ties are given (YtcmeincdmphaoabDoorTie.lean); close each card by the builder's one call (the guide's Derived/Test/ToyasCard.lean, 'card_holds'). Laid BY PROGRAM, IN A SANDBOX (cutbox-door.mjs). By AI agents, Wed Nov 11 2026. No macro, syntax, notation, axiom, sorry.
-/
import Derived.Test.YtcmeincdmphaoabDoorRows
import GoSem.ClaimSeven
namespace Go.Proofs.YtcmeincdmphaoabDoor
namespace Rows

/-- THE TIED CARD OF 'mastlaw1.BuildFacts'. -/
def buildFactsCard : Claim7 := { stood := { row := buildFactsRow, standIns := [], harness := (true, "7b1d0b88db9142ac5b687628bb8ed4c8694294ac86cbeb5c1660272d06eab651"), looks := false }, kinds := [], alts := [], laidByText := true, laidKinds := [.listed, .data], laidTests := true, laidLooks := .later }
def BuildFactsCardSaid : Prop := Claim7.holds Tryd.pinned (.plain (OpenSpec.ofChange buildFactsSpec)) buildFactsCard

/-- THE TIED CARD OF 'mastlaw1.PageSplits'. -/
def pageSplitsCard : Claim7 := { stood := { row := pageSplitsRow, standIns := [], harness := (true, "7b1d0b88db9142ac5b687628bb8ed4c8694294ac86cbeb5c1660272d06eab651"), looks := false }, kinds := [], alts := [], laidByText := true, laidKinds := [.data, .pinned], laidTests := true, laidLooks := .later }
def PageSplitsCardSaid : Prop := Claim7.holds Tryd.pinned (.plain (OpenSpec.ofChange pageSplitsSpec)) pageSplitsCard

/-- THE SECOND FORM's CARD OF 'mastlaw1.BuildFacts'. -/
def buildFactsUptoCard : Claim7 := { stood := { row := buildFactsUptoRow, standIns := [], harness := (true, "7b1d0b88db9142ac5b687628bb8ed4c8694294ac86cbeb5c1660272d06eab651"), looks := false }, kinds := [], alts := [], laidByText := true, laidKinds := [.listed, .data], laidTests := true, laidLooks := .later }
def BuildFactsUptoCardSaid : Prop := Claim7.holds Tryd.pinned (.plain (OpenSpec.upto buildFactsSpec)) buildFactsUptoCard

/-- THE SECOND FORM's CARD OF 'mastlaw1.PageSplits'. -/
def pageSplitsUptoCard : Claim7 := { stood := { row := pageSplitsUptoRow, standIns := [], harness := (true, "7b1d0b88db9142ac5b687628bb8ed4c8694294ac86cbeb5c1660272d06eab651"), looks := false }, kinds := [], alts := [], laidByText := true, laidKinds := [.data, .pinned], laidTests := true, laidLooks := .later }
def PageSplitsUptoCardSaid : Prop := Claim7.holds Tryd.pinned (.plain (OpenSpec.upto pageSplitsSpec)) pageSplitsUptoCard
end Rows
end Go.Proofs.YtcmeincdmphaoabDoor
