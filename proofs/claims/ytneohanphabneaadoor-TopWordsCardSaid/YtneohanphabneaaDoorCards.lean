/-
  DERIVED. GIVEN WITH THE SEED: THE CARDS: each row of YtneohanphabneaaDoorRows.lean that lists a variable, with what it lists TIED to the program's text (the seventh form; the later family's looks); each row that meets fmt, with fmt's text TOLD by the authors' own Lean function (tested against real Go, not proved from fmt's source: count such statements apart). THE CARD IS WHAT COUNTS. Prove the row's statement (the work); the ties are given (YtneohanphabneaaDoorTie.lean); close each card by the builder's one call (the guide's Derived/Test/ToyasCard.lean, 'card_holds'). Laid BY PROGRAM, IN A SANDBOX (cutbox-door.mjs). By AI agents, Wed Nov 11 2026. No macro, syntax, notation, axiom, sorry.
-/
import Derived.Test.YtneohanphabneaaDoorRows
import GoSem.ClaimSeven
namespace Go.Proofs.YtneohanphabneaaDoor
namespace Rows

/-- THE TIED CARD OF 'oberlinlaw.ScanSays'. -/
def scanSaysCard : Claim7 := { stood := { row := scanSaysRow, standIns := [], harness := (true, "96fb25cce193568f886e7c6d1bff2db576b219be45333d8516be64dcfd27d474"), looks := true }, kinds := [], alts := [], laidByText := true, laidKinds := [.data, .handle, .pinned], laidTests := true, laidLooks := .later }
def ScanSaysCardSaid : Prop := Claim7.holds Tryd.pinned (.plain (OpenSpec.ofChange scanSaysSpec)) scanSaysCard

/-- THE TIED CARD OF 'oberlintop.TopWords'. -/
def topWordsCard : Claim7 := { stood := { row := topWordsRow, standIns := [], harness := (true, "96fb25cce193568f886e7c6d1bff2db576b219be45333d8516be64dcfd27d474"), looks := true }, kinds := [], alts := [], laidByText := true, laidKinds := [.data, .pinned], laidTests := true, laidLooks := .later }
def TopWordsCardSaid : Prop := Claim7.holds Tryd.pinned (.plain (OpenSpec.ofChange topWordsSpec)) topWordsCard

/-- THE SECOND FORM's CARD OF 'oberlinlaw.ScanSays'. -/
def scanSaysUptoCard : Claim7 := { stood := { row := scanSaysUptoRow, standIns := [], harness := (true, "96fb25cce193568f886e7c6d1bff2db576b219be45333d8516be64dcfd27d474"), looks := true }, kinds := [], alts := [], laidByText := true, laidKinds := [.data, .handle, .pinned], laidTests := true, laidLooks := .later }
def ScanSaysUptoCardSaid : Prop := Claim7.holds Tryd.pinned (.plain (OpenSpec.upto scanSaysSpec)) scanSaysUptoCard

/-- THE SECOND FORM's CARD OF 'oberlintop.TopWords'. -/
def topWordsUptoCard : Claim7 := { stood := { row := topWordsUptoRow, standIns := [], harness := (true, "96fb25cce193568f886e7c6d1bff2db576b219be45333d8516be64dcfd27d474"), looks := true }, kinds := [], alts := [], laidByText := true, laidKinds := [.data, .pinned], laidTests := true, laidLooks := .later }
def TopWordsUptoCardSaid : Prop := Claim7.holds Tryd.pinned (.plain (OpenSpec.upto topWordsSpec)) topWordsUptoCard
end Rows
end Go.Proofs.YtneohanphabneaaDoor
