/-
  DERIVED. GIVEN WITH THE SEED: THE CARDS: each row of YthbncndefigidaaDoorRows.lean that lists a variable, with what it lists TIED to the program's text (the seventh form; the later family's looks); each row that meets fmt, with fmt's text TOLD by the authors' own Lean function (tested against real Go, not proved from fmt's source: count such statements apart). THE CARD IS WHAT COUNTS. Prove the row's statement (the work); the ties are given (YthbncndefigidaaDoorTie.lean); close each card by the builder's one call (the guide's Derived/Test/ToyasCard.lean, 'card_holds'). Laid BY PROGRAM, IN A SANDBOX (cutbox-door.mjs). By AI agents, Wed Nov 11 2026. No macro, syntax, notation, axiom, sorry.
-/
import Derived.Test.YthbncndefigidaaDoorRows
import GoSem.ClaimSeven
namespace Go.Proofs.YthbncndefigidaaDoor
namespace Rows

/-- THE TIED CARD OF 'mastlaw1.MarkSlugs'. -/
def markSlugsCard : Claim7 := { stood := { row := markSlugsRow, standIns := [], harness := (true, "21a253a28f79fad966243a6a04314a94c51a194b459098d8f36869ae68f3c502"), looks := false }, kinds := [], alts := [], laidByText := true, laidKinds := [.data, .pinned], laidTests := true, laidLooks := .later }
def MarkSlugsCardSaid : Prop := Claim7.holds Tryd.pinned (.plain (OpenSpec.ofChange markSlugsSpec)) markSlugsCard

/-- THE TIED CARD OF 'mastlaw1.MarkChecks'. -/
def markChecksCard : Claim7 := { stood := { row := markChecksRow, standIns := [], harness := (true, "21a253a28f79fad966243a6a04314a94c51a194b459098d8f36869ae68f3c502"), looks := false }, kinds := [], alts := [], laidByText := true, laidKinds := [.data, .pinned], laidTests := true, laidLooks := .later }
def MarkChecksCardSaid : Prop := Claim7.holds Tryd.pinned (.plain (OpenSpec.ofChange markChecksSpec)) markChecksCard

/-- THE TIED CARD OF 'mastlaw1.MarkSections'. -/
def markSectionsCard : Claim7 := { stood := { row := markSectionsRow, standIns := [], harness := (true, "21a253a28f79fad966243a6a04314a94c51a194b459098d8f36869ae68f3c502"), looks := false }, kinds := [], alts := [], laidByText := true, laidKinds := [.data, .data, .data, .data, .pinned], laidTests := true, laidLooks := .later }
def MarkSectionsCardSaid : Prop := Claim7.holds Tryd.pinned (.plain (OpenSpec.ofChange markSectionsSpec)) markSectionsCard

/-- THE TIED CARD OF 'mastlaw1.MarkIds'. -/
def markIdsCard : Claim7 := { stood := { row := markIdsRow, standIns := [], harness := (true, "21a253a28f79fad966243a6a04314a94c51a194b459098d8f36869ae68f3c502"), looks := false }, kinds := [], alts := [], laidByText := true, laidKinds := [.data, .data, .data, .data, .pinned], laidTests := true, laidLooks := .later }
def MarkIdsCardSaid : Prop := Claim7.holds Tryd.pinned (.plain (OpenSpec.ofChange markIdsSpec)) markIdsCard

/-- THE SECOND FORM's CARD OF 'mastlaw1.MarkSlugs'. -/
def markSlugsUptoCard : Claim7 := { stood := { row := markSlugsUptoRow, standIns := [], harness := (true, "21a253a28f79fad966243a6a04314a94c51a194b459098d8f36869ae68f3c502"), looks := false }, kinds := [], alts := [], laidByText := true, laidKinds := [.data, .pinned], laidTests := true, laidLooks := .later }
def MarkSlugsUptoCardSaid : Prop := Claim7.holds Tryd.pinned (.plain (OpenSpec.upto markSlugsSpec)) markSlugsUptoCard

/-- THE SECOND FORM's CARD OF 'mastlaw1.MarkChecks'. -/
def markChecksUptoCard : Claim7 := { stood := { row := markChecksUptoRow, standIns := [], harness := (true, "21a253a28f79fad966243a6a04314a94c51a194b459098d8f36869ae68f3c502"), looks := false }, kinds := [], alts := [], laidByText := true, laidKinds := [.data, .pinned], laidTests := true, laidLooks := .later }
def MarkChecksUptoCardSaid : Prop := Claim7.holds Tryd.pinned (.plain (OpenSpec.upto markChecksSpec)) markChecksUptoCard

/-- THE SECOND FORM's CARD OF 'mastlaw1.MarkSections'. -/
def markSectionsUptoCard : Claim7 := { stood := { row := markSectionsUptoRow, standIns := [], harness := (true, "21a253a28f79fad966243a6a04314a94c51a194b459098d8f36869ae68f3c502"), looks := false }, kinds := [], alts := [], laidByText := true, laidKinds := [.data, .data, .data, .data, .pinned], laidTests := true, laidLooks := .later }
def MarkSectionsUptoCardSaid : Prop := Claim7.holds Tryd.pinned (.plain (OpenSpec.upto markSectionsSpec)) markSectionsUptoCard

/-- THE SECOND FORM's CARD OF 'mastlaw1.MarkIds'. -/
def markIdsUptoCard : Claim7 := { stood := { row := markIdsUptoRow, standIns := [], harness := (true, "21a253a28f79fad966243a6a04314a94c51a194b459098d8f36869ae68f3c502"), looks := false }, kinds := [], alts := [], laidByText := true, laidKinds := [.data, .data, .data, .data, .pinned], laidTests := true, laidLooks := .later }
def MarkIdsUptoCardSaid : Prop := Claim7.holds Tryd.pinned (.plain (OpenSpec.upto markIdsSpec)) markIdsUptoCard
end Rows
end Go.Proofs.YthbncndefigidaaDoor
