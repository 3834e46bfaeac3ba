/-
  DERIVED. GIVEN WITH THE SEED: THE CARDS: each row of YtlmfiknfkgdbpaaGreatDoorRows.lean that lists a variable, with what it lists TIED to the program's text (the seventh form; the later family's looks); each row that meets fmt, with fmt's text TOLD by the authors' own Lean function (tested against real Go, not proved from fmt's source: count such statements apart). THE CARD IS WHAT COUNTS. Prove the row's statement (the work); the ties are given (YtlmfiknfkgdbpaaGreatDoorTie.lean); close each card by the builder's one call (the guide's Derived/Test/ToyasCard.lean, 'card_holds'). Laid BY PROGRAM, IN A SANDBOX (cutbox-door.mjs). By AI agents, Wed Nov 11 2026. No macro, syntax, notation, axiom, sorry.
-/
import Derived.Test.YtlmfiknfkgdbpaaGreatDoorRows
import GoSem.ClaimSeven
namespace Go.Proofs.YtlmfiknfkgdbpaaGreatDoor
namespace Rows

/-- THE TIED CARD OF 'mastlaw1.MarkPrints'. -/
def markPrintsCard : Claim7 := { stood := { row := markPrintsRow, standIns := [], harness := (true, "13fcd83f197ae0a4fbd72f12b1062bc2ad1db9c90f1325bba9f6dfd08d14585e"), looks := false }, kinds := [], alts := [], laidByText := true, laidKinds := [.data, .data, .data, .data, .pinned], laidTests := true, laidLooks := .later }
def MarkPrintsCardSaid : Prop := Claim7.holds Tryz.pinned (.plain (OpenSpec.ofChange markPrintsSpec)) markPrintsCard

/-- THE SECOND FORM's CARD OF 'mastlaw1.MarkPrints'. -/
def markPrintsUptoCard : Claim7 := { stood := { row := markPrintsUptoRow, standIns := [], harness := (true, "13fcd83f197ae0a4fbd72f12b1062bc2ad1db9c90f1325bba9f6dfd08d14585e"), looks := false }, kinds := [], alts := [], laidByText := true, laidKinds := [.data, .data, .data, .data, .pinned], laidTests := true, laidLooks := .later }
def MarkPrintsUptoCardSaid : Prop := Claim7.holds Tryz.pinned (.plain (OpenSpec.upto markPrintsSpec)) markPrintsUptoCard
end Rows
end Go.Proofs.YtlmfiknfkgdbpaaGreatDoor
