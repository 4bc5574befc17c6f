/-
  DERIVED. GIVEN WITH THE SEED: THE CARDS: each row of YtodcbcpjlhlakaaDoorRows.lean that lists a variable, with what it lists TIED to the program's text (the seventh form; the later family's looks); each row that meets fmt, with fmt's text TOLD by the authors' own Lean function (tested against real Go, not proved from fmt's source: count such statements apart). THE CARD IS WHAT COUNTS. Prove the row's statement (the work); the ties are given (YtodcbcpjlhlakaaDoorTie.lean); close each card by the builder's one call (the guide's Derived/Test/ToyasCard.lean, 'card_holds'). Laid BY PROGRAM, IN A SANDBOX (cutbox-door.mjs). By AI agents, Wed Nov 11 2026. No macro, syntax, notation, axiom, sorry.
-/
import Derived.Test.YtodcbcpjlhlakaaDoorRows
import GoSem.ClaimSeven
namespace Go.Proofs.YtodcbcpjlhlakaaDoor
namespace Rows

/-- THE TIED CARD OF 'lighteragelaw27.ReptSays'. -/
def reptSaysCard : Claim7 := { stood := { row := reptSaysRow, standIns := [], harness := (true, "6fed9706ba967b3c695ba4af3b5cfc346f6528fb27e1f5c1e2c256267ca08f7f"), looks := true }, kinds := [], alts := [], laidByText := true, laidKinds := [.data, .data, .data, .data, .sentinel, .sentinel, .pinned], laidTests := true, laidLooks := .later }
def ReptSaysCardSaid : Prop := Claim7.holds Tryd.pinned (.plain (OpenSpec.ofChange reptSaysSpec)) reptSaysCard

/-- THE TIED CARD OF 'lighteragelaw27.ReptTells'. -/
def reptTellsCard : Claim7 := { stood := { row := reptTellsRow, standIns := [], harness := (true, "6fed9706ba967b3c695ba4af3b5cfc346f6528fb27e1f5c1e2c256267ca08f7f"), looks := true }, kinds := [], alts := [], laidByText := true, laidKinds := [.data, .data, .data, .data, .sentinel, .sentinel, .pinned], laidTests := true, laidLooks := .later }
def ReptTellsCardSaid : Prop := Claim7.holds Tryd.pinned (.plain (OpenSpec.ofChange reptTellsSpec)) reptTellsCard

/-- THE TIED CARD OF 'lighteragelaw27.ReptApart'. -/
def reptApartCard : Claim7 := { stood := { row := reptApartRow, standIns := [], harness := (true, "6fed9706ba967b3c695ba4af3b5cfc346f6528fb27e1f5c1e2c256267ca08f7f"), looks := true }, kinds := [], alts := [], laidByText := true, laidKinds := [.data, .data, .data, .data, .sentinel, .sentinel, .pinned], laidTests := true, laidLooks := .later }
def ReptApartCardSaid : Prop := Claim7.holds Tryd.pinned (.plain (OpenSpec.ofChange reptApartSpec)) reptApartCard

/-- THE SECOND FORM's CARD OF 'lighteragelaw27.ReptSays'. -/
def reptSaysUptoCard : Claim7 := { stood := { row := reptSaysUptoRow, standIns := [], harness := (true, "6fed9706ba967b3c695ba4af3b5cfc346f6528fb27e1f5c1e2c256267ca08f7f"), looks := true }, kinds := [], alts := [], laidByText := true, laidKinds := [.data, .data, .data, .data, .sentinel, .sentinel, .pinned], laidTests := true, laidLooks := .later }
def ReptSaysUptoCardSaid : Prop := Claim7.holds Tryd.pinned (.plain (OpenSpec.upto reptSaysSpec)) reptSaysUptoCard

/-- THE SECOND FORM's CARD OF 'lighteragelaw27.ReptTells'. -/
def reptTellsUptoCard : Claim7 := { stood := { row := reptTellsUptoRow, standIns := [], harness := (true, "6fed9706ba967b3c695ba4af3b5cfc346f6528fb27e1f5c1e2c256267ca08f7f"), looks := true }, kinds := [], alts := [], laidByText := true, laidKinds := [.data, .data, .data, .data, .sentinel, .sentinel, .pinned], laidTests := true, laidLooks := .later }
def ReptTellsUptoCardSaid : Prop := Claim7.holds Tryd.pinned (.plain (OpenSpec.upto reptTellsSpec)) reptTellsUptoCard

/-- THE SECOND FORM's CARD OF 'lighteragelaw27.ReptApart'. -/
def reptApartUptoCard : Claim7 := { stood := { row := reptApartUptoRow, standIns := [], harness := (true, "6fed9706ba967b3c695ba4af3b5cfc346f6528fb27e1f5c1e2c256267ca08f7f"), looks := true }, kinds := [], alts := [], laidByText := true, laidKinds := [.data, .data, .data, .data, .sentinel, .sentinel, .pinned], laidTests := true, laidLooks := .later }
def ReptApartUptoCardSaid : Prop := Claim7.holds Tryd.pinned (.plain (OpenSpec.upto reptApartSpec)) reptApartUptoCard
end Rows
end Go.Proofs.YtodcbcpjlhlakaaDoor
