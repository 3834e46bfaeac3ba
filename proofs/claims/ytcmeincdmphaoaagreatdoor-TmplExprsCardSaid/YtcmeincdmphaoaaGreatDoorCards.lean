/-
  DERIVED. GIVEN WITH THE SEED: THE CARDS: each row of YtcmeincdmphaoaaGreatDoorRows.lean that lists a variable, with what it lists TIED to the program's text (the seventh form; the later family's looks); each row that meets fmt, with fmt's text TOLD by the authors' own Lean function (tested against real Go, not proved from fmt's source: count such statements apart). THE CARD IS WHAT COUNTS. Prove the row's statement (the work); the ties are given (YtcmeincdmphaoaaGreatDoorTie.lean); close each card by the builder's one call (the guide's Derived/Test/ToyasCard.lean, 'card_holds'). Laid BY PROGRAM, IN A SANDBOX (cutbox-door.mjs). By AI agents, Wed Nov 11 2026. No macro, syntax, notation, axiom, sorry.
-/
import Derived.Test.YtcmeincdmphaoaaGreatDoorRows
import GoSem.ClaimSeven
namespace Go.Proofs.YtcmeincdmphaoaaGreatDoor
namespace Rows

/-- THE TIED CARD OF 'mastlaw1.TmplWrites'. -/
def tmplWritesCard : Claim7 := { stood := { row := tmplWritesRow, standIns := [], harness := (true, "6cda3425b6890d92b7fc1d2f72ae1ade0302513dc14825aca200cfeb00518d25"), looks := true }, kinds := [], alts := [], laidByText := true, laidKinds := [.data, .data, .data, .data, .pinned], laidTests := true, laidLooks := .later }
def TmplWritesCardSaid : Prop := Claim7.holds Tryz.pinned (.plain (OpenSpec.ofChange tmplWritesSpec)) tmplWritesCard

/-- THE TIED CARD OF 'mastlaw1.TmplExprs'. -/
def tmplExprsCard : Claim7 := { stood := { row := tmplExprsRow, standIns := [], harness := (true, "6cda3425b6890d92b7fc1d2f72ae1ade0302513dc14825aca200cfeb00518d25"), looks := true }, kinds := [], alts := [], laidByText := true, laidKinds := [.data, .data, .data, .data, .sentinel, .sentinel, .pinned], laidTests := true, laidLooks := .later }
def TmplExprsCardSaid : Prop := Claim7.holds Tryz.pinned (.plain (OpenSpec.ofChange tmplExprsSpec)) tmplExprsCard

/-- THE SECOND FORM's CARD OF 'mastlaw1.TmplWrites'. -/
def tmplWritesUptoCard : Claim7 := { stood := { row := tmplWritesUptoRow, standIns := [], harness := (true, "6cda3425b6890d92b7fc1d2f72ae1ade0302513dc14825aca200cfeb00518d25"), looks := true }, kinds := [], alts := [], laidByText := true, laidKinds := [.data, .data, .data, .data, .pinned], laidTests := true, laidLooks := .later }
def TmplWritesUptoCardSaid : Prop := Claim7.holds Tryz.pinned (.plain (OpenSpec.upto tmplWritesSpec)) tmplWritesUptoCard

/-- THE SECOND FORM's CARD OF 'mastlaw1.TmplExprs'. -/
def tmplExprsUptoCard : Claim7 := { stood := { row := tmplExprsUptoRow, standIns := [], harness := (true, "6cda3425b6890d92b7fc1d2f72ae1ade0302513dc14825aca200cfeb00518d25"), looks := true }, kinds := [], alts := [], laidByText := true, laidKinds := [.data, .data, .data, .data, .sentinel, .sentinel, .pinned], laidTests := true, laidLooks := .later }
def TmplExprsUptoCardSaid : Prop := Claim7.holds Tryz.pinned (.plain (OpenSpec.upto tmplExprsSpec)) tmplExprsUptoCard
end Rows
end Go.Proofs.YtcmeincdmphaoaaGreatDoor
