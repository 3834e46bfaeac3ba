/-
  DERIVED. GIVEN WITH THE SEED: THE CARDS: each row of YtefclcihphpejaaDoorRows.lean that lists a variable, with what it lists TIED to the program's text (the seventh form; the later family's looks); each row that meets fmt, with fmt's text TOLD by the authors' own Lean function (tested against real Go, not proved from fmt's source: count such statements apart). THE CARD IS WHAT COUNTS. Prove the row's statement (the work); the ties are given (YtefclcihphpejaaDoorTie.lean); close each card by the builder's one call (the guide's Derived/Test/ToyasCard.lean, 'card_holds'). Laid BY PROGRAM, IN A SANDBOX (cutbox-door.mjs). By AI agents, Wed Nov 11 2026. No macro, syntax, notation, axiom, sorry.
-/
import Derived.Test.YtefclcihphpejaaDoorRows
import GoSem.ClaimSeven
namespace Go.Proofs.YtefclcihphpejaaDoor
namespace Rows

/-- THE TIED CARD OF 'mastlaw1.ShipWrites'. -/
def shipWritesCard : Claim7 := { stood := { row := shipWritesRow, standIns := [], harness := (true, "0fc81693ab3a4d35048547df7f6e12152165229fdb2358e61a381848430820c0"), looks := true }, kinds := [], alts := [], laidByText := true, laidKinds := [.data, .data, .data, .data, .pinned], laidTests := true, laidLooks := .later }
def ShipWritesCardSaid : Prop := Claim7.holds Tryd.pinned (.plain (OpenSpec.ofChange shipWritesSpec)) shipWritesCard

/-- THE TIED CARD OF 'mastlaw1.ShipReads'. -/
def shipReadsCard : Claim7 := { stood := { row := shipReadsRow, standIns := [], harness := (true, "0fc81693ab3a4d35048547df7f6e12152165229fdb2358e61a381848430820c0"), looks := true }, kinds := [], alts := [], laidByText := true, laidKinds := [.data, .data, .data, .data, .pinned], laidTests := true, laidLooks := .later }
def ShipReadsCardSaid : Prop := Claim7.holds Tryd.pinned (.plain (OpenSpec.ofChange shipReadsSpec)) shipReadsCard

/-- THE TIED CARD OF 'mastlaw1.ShipEvents'. -/
def shipEventsCard : Claim7 := { stood := { row := shipEventsRow, standIns := [], harness := (true, "0fc81693ab3a4d35048547df7f6e12152165229fdb2358e61a381848430820c0"), looks := true }, kinds := [], alts := [], laidByText := true, laidKinds := [.data, .pinned], laidTests := true, laidLooks := .later }
def ShipEventsCardSaid : Prop := Claim7.holds Tryd.pinned (.plain (OpenSpec.ofChange shipEventsSpec)) shipEventsCard

/-- THE TIED CARD OF 'mastlaw1.TmplUnquotes'. -/
def tmplUnquotesCard : Claim7 := { stood := { row := tmplUnquotesRow, standIns := [], harness := (true, "0fc81693ab3a4d35048547df7f6e12152165229fdb2358e61a381848430820c0"), looks := true }, kinds := [], alts := [], laidByText := true, laidKinds := [.data, .data, .data, .sentinel, .sentinel], laidTests := true, laidLooks := .later }
def TmplUnquotesCardSaid : Prop := Claim7.holds Tryd.pinned (.plain (OpenSpec.ofChange tmplUnquotesSpec)) tmplUnquotesCard

/-- THE SECOND FORM's CARD OF 'mastlaw1.ShipWrites'. -/
def shipWritesUptoCard : Claim7 := { stood := { row := shipWritesUptoRow, standIns := [], harness := (true, "0fc81693ab3a4d35048547df7f6e12152165229fdb2358e61a381848430820c0"), looks := true }, kinds := [], alts := [], laidByText := true, laidKinds := [.data, .data, .data, .data, .pinned], laidTests := true, laidLooks := .later }
def ShipWritesUptoCardSaid : Prop := Claim7.holds Tryd.pinned (.plain (OpenSpec.upto shipWritesSpec)) shipWritesUptoCard

/-- THE SECOND FORM's CARD OF 'mastlaw1.ShipReads'. -/
def shipReadsUptoCard : Claim7 := { stood := { row := shipReadsUptoRow, standIns := [], harness := (true, "0fc81693ab3a4d35048547df7f6e12152165229fdb2358e61a381848430820c0"), looks := true }, kinds := [], alts := [], laidByText := true, laidKinds := [.data, .data, .data, .data, .pinned], laidTests := true, laidLooks := .later }
def ShipReadsUptoCardSaid : Prop := Claim7.holds Tryd.pinned (.plain (OpenSpec.upto shipReadsSpec)) shipReadsUptoCard

/-- THE SECOND FORM's CARD OF 'mastlaw1.ShipEvents'. -/
def shipEventsUptoCard : Claim7 := { stood := { row := shipEventsUptoRow, standIns := [], harness := (true, "0fc81693ab3a4d35048547df7f6e12152165229fdb2358e61a381848430820c0"), looks := true }, kinds := [], alts := [], laidByText := true, laidKinds := [.data, .pinned], laidTests := true, laidLooks := .later }
def ShipEventsUptoCardSaid : Prop := Claim7.holds Tryd.pinned (.plain (OpenSpec.upto shipEventsSpec)) shipEventsUptoCard

/-- THE SECOND FORM's CARD OF 'mastlaw1.TmplUnquotes'. -/
def tmplUnquotesUptoCard : Claim7 := { stood := { row := tmplUnquotesUptoRow, standIns := [], harness := (true, "0fc81693ab3a4d35048547df7f6e12152165229fdb2358e61a381848430820c0"), looks := true }, kinds := [], alts := [], laidByText := true, laidKinds := [.data, .data, .data, .sentinel, .sentinel], laidTests := true, laidLooks := .later }
def TmplUnquotesUptoCardSaid : Prop := Claim7.holds Tryd.pinned (.plain (OpenSpec.upto tmplUnquotesSpec)) tmplUnquotesUptoCard
end Rows
end Go.Proofs.YtefclcihphpejaaDoor
