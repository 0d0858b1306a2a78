/-
  DERIVED. GIVEN WITH THE SEED: THE CARDS: each row of YtneohanphabneaaGreatDoorRows.lean that lists a variable, with what it lists TIED to the program's text (the seventh form; the later family's looks); each row that meets fmt, with fmt's text TOLD by the authors' own Lean function (tested against real Go, not proved from fmt's source: count such statements apart). THE CARD IS WHAT COUNTS. Prove the row's statement (the work); the ties are given (YtneohanphabneaaGreatDoorTie.lean); close each card by the builder's one call (the guide's Derived/Test/ToyasCard.lean, 'card_holds'). Laid BY PROGRAM, IN A SANDBOX (cutbox-door.mjs). By AI agents, Wed Nov 11 2026. No macro, syntax, notation, axiom, sorry.
-/
import Derived.Test.YtneohanphabneaaGreatDoorRows
import GoSem.ClaimSeven
namespace Go.Proofs.YtneohanphabneaaGreatDoor
namespace Rows

/-- THE TIED CARD OF 'oberlinlaw.ParseSays'. -/
def parseSaysCard : Claim7 := { stood := { row := parseSaysRow, standIns := [], harness := (true, "851a44bb185a94e9e30da209bd9b163e821697c3bdf7b6db7c7052b0fc973925"), looks := true }, kinds := [], alts := [], laidByText := true, laidKinds := [.data, .data, .data, .data, .handle, .sentinel, .sentinel, .widerDeep, .data, .pinned], laidTests := true, laidLooks := .later }
def ParseSaysCardSaid : Prop := Claim7.holds Tryz.pinned (.plain (OpenSpec.ofChange parseSaysSpec)) parseSaysCard

/-- THE TIED CARD OF 'oberlintop.TopPrint'. -/
def topPrintCard : Claim7 := { stood := { row := topPrintRow, standIns := [], harness := (true, "851a44bb185a94e9e30da209bd9b163e821697c3bdf7b6db7c7052b0fc973925"), looks := true }, kinds := [], alts := [], laidByText := true, laidKinds := [.data, .data, .data, .data, .handle, .sentinel, .sentinel, .data, .pinned], laidTests := true, laidLooks := .later }
def TopPrintCardSaid : Prop := Claim7.holds Tryz.pinned (.plain (OpenSpec.ofChange topPrintSpec)) topPrintCard

/-- THE SECOND FORM's CARD OF 'oberlinlaw.ParseSays'. -/
def parseSaysUptoCard : Claim7 := { stood := { row := parseSaysUptoRow, standIns := [], harness := (true, "851a44bb185a94e9e30da209bd9b163e821697c3bdf7b6db7c7052b0fc973925"), looks := true }, kinds := [], alts := [], laidByText := true, laidKinds := [.data, .data, .data, .data, .handle, .sentinel, .sentinel, .widerDeep, .data, .pinned], laidTests := true, laidLooks := .later }
def ParseSaysUptoCardSaid : Prop := Claim7.holds Tryz.pinned (.plain (OpenSpec.upto parseSaysSpec)) parseSaysUptoCard

/-- THE SECOND FORM's CARD OF 'oberlintop.TopPrint'. -/
def topPrintUptoCard : Claim7 := { stood := { row := topPrintUptoRow, standIns := [], harness := (true, "851a44bb185a94e9e30da209bd9b163e821697c3bdf7b6db7c7052b0fc973925"), looks := true }, kinds := [], alts := [], laidByText := true, laidKinds := [.data, .data, .data, .data, .handle, .sentinel, .sentinel, .data, .pinned], laidTests := true, laidLooks := .later }
def TopPrintUptoCardSaid : Prop := Claim7.holds Tryz.pinned (.plain (OpenSpec.upto topPrintSpec)) topPrintUptoCard
end Rows
end Go.Proofs.YtneohanphabneaaGreatDoor
